/- TimingCovers: the reference's Union, Minus, Total, the walk and the law. Conditions: those of each theorem. -/
import Derived.Test.YtpdboefaedocfaaTmZ
namespace Go.Proofs.Ytpdboefaedocfaa
open Go.ChangeShapes Go.WideShapes Go.ChangeAt Go.RowKit

theorem total_to (A : Option Addr) (c : Nat) (ps : List (Int × Int)) {t er : Int} (ht : Tm.totV ps = t) (he : Tm.chk [ps] = er) (w : World) (h : (⟨A, c, ps⟩ : PL).In w) :
    Calls Try.prog 14 #[.slice A ps.length c] w fun e w' => e = .returned (.tuple #[.int .i64 t, .int .i64 er]) ∧ Ext w w' := by
  subst ht he
  exact total_any A c ps w h
theorem minV_ok (ps qs : List (Int × Int)) : ∀ d ∈ Tm.minV ps qs, Tm.ok d := by
  unfold Tm.minV
  split
  · rename_i hz
    exact Tm.mns_ok (Tm.nrm_ok (Tm.chk_zero hz ps (by simp)).2).1 (Tm.nrm_norm (Tm.ok_lt (Tm.chk_zero hz qs (by simp)).2)).1.1
  · intro d hd; cases hd
theorem minus_to (A : Option Addr) (c : Nat) (ps : List (Int × Int)) (B : Option Addr) (d : Nat) (qs : List (Int × Int)) {ms : List (Int × Int)} {er : Int} (hm : Tm.minV ps qs = ms) (he : Tm.chk [ps, qs] = er) (w : World) (h : (⟨A, c, ps⟩ : PL).In w) (h2 : (⟨B, d, qs⟩ : PL).In w) :
    Calls Try.prog 15 #[.slice A ps.length c, .slice B qs.length d] w fun e w' => ∃ (X : Option Addr) (xc : Nat), e = .returned (.tuple #[.slice X ms.length xc, .int .i64 er]) ∧ (⟨X, xc, ms⟩ : PL).In w' ∧ Ext w w' := by
  subst hm he
  refine (minus_any A c ps B d qs w h h2).mono ?_
  rintro e w' ⟨X, xc, rfl, ho, hx⟩
  exact ⟨X, xc, rfl, pl_own ho (minV_ok ps qs), hx⟩
theorem union_to (A : Option Addr) (c : Nat) (ps : List (Int × Int)) {us : List (Int × Int)} {er : Int} (hu : Tm.uniV ps = us) (he : Tm.chk [ps] = er) (w : World) (h : (⟨A, c, ps⟩ : PL).In w) :
    Calls Try.prog 18 #[.slice A ps.length c] w fun e w' => ∃ (X : Option Addr) (xc : Nat), e = .returned (.tuple #[.slice X us.length xc, .int .i64 er]) ∧ (⟨X, xc, us⟩ : PL).In w' ∧ Ext w w' := by
  subst hu he
  exact union_any A c ps w h

theorem refcheck_to (A : Option Addr) (c : Nat) (a : List (Int × Int)) {er : Int} (he : Tm.chk [a] = er) (w : World) (h : (⟨A, c, a⟩ : PL).In w) :
    Calls Try.prog 27 #[.slice A a.length c, .slice none 0 0] w fun e w' => e = .returned (.int .i64 er) ∧ Ext w w' := by
  subst he
  rw [← Tm.chk_two]
  exact refcheck_any A c a none 0 [] w h (pl_nil w)
theorem refcheck2_to (A : Option Addr) (c : Nat) (a : List (Int × Int)) (B : Option Addr) (d : Nat) (b : List (Int × Int)) {er : Int} (he : Tm.chk [a, b] = er) (w : World) (h : (⟨A, c, a⟩ : PL).In w) (h2 : (⟨B, d, b⟩ : PL).In w) :
    Calls Try.prog 27 #[.slice A a.length c, .slice B b.length d] w fun e w' => e = .returned (.int .i64 er) ∧ Ext w w' := by
  subst he
  exact refcheck_any A c a B d b w h h2
theorem refminus1_to (A : Option Addr) (c : Nat) (a m : List (Int × Int)) (hm : Tm.nrm a = m) (hz : Tm.chk [a] = 0) (w : World) (h : (⟨A, c, a⟩ : PL).In w) :
    Calls Try.prog 28 #[.slice A a.length c, .slice none 0 0] w fun e w' => ∃ (X : Option Addr) (xc : Nat), e = .returned (.slice X m.length xc) ∧ (⟨X, xc, m⟩ : PL).In w' ∧ Ext w w' := by
  subst hm
  have ha := Tm.chk_zero hz a (by simp)
  refine (refminus_any A c a none 0 [] w h (pl_nil w) ha.2 (fun p hp => by cases hp) ha.1 (by simp)).mono ?_
  rintro e w' ⟨X, xc, m, rfl, hX, hm, hx⟩
  rw [Tm.mns_nil ha.2] at hm
  subst hm
  exact ⟨X, xc, rfl, hX, hx⟩
theorem refminus2_to (A : Option Addr) (c : Nat) (a : List (Int × Int)) (B : Option Addr) (d : Nat) (b m : List (Int × Int)) (hm : Tm.minV a b = m) (hz : Tm.chk [a, b] = 0) (w : World) (h : (⟨A, c, a⟩ : PL).In w) (h2 : (⟨B, d, b⟩ : PL).In w) :
    Calls Try.prog 28 #[.slice A a.length c, .slice B b.length d] w fun e w' => ∃ (X : Option Addr) (xc : Nat), e = .returned (.slice X m.length xc) ∧ (⟨X, xc, m⟩ : PL).In w' ∧ Ext w w' := by
  subst hm
  have ha := Tm.chk_zero hz a (by simp)
  have hb := Tm.chk_zero hz b (by simp)
  refine (refminus_any A c a B d b w h h2 ha.2 hb.2 ha.1 hb.1).mono ?_
  rintro e w' ⟨X, xc, m, rfl, hX, hm, hx⟩
  have e1 : Tm.minV a b = m := by unfold Tm.minV; rw [if_pos hz, hm]
  rw [e1]
  exact ⟨X, xc, rfl, hX, hx⟩

set_option maxHeartbeats 800000 in
theorem refunion_to (A : Option Addr) (c : Nat) (ps us : List (Int × Int)) {er : Int} (hu : Tm.uniV ps = us) (hr : Tm.chk [ps] = er) (w : World) (h : (⟨A, c, ps⟩ : PL).In w) :
    Calls Try.prog 19 #[.slice A ps.length c] w fun e w' => ∃ (X : Option Addr) (xc : Nat), e = .returned (.tuple #[.slice X us.length xc, .int .i64 er]) ∧ (⟨X, xc, us⟩ : PL).In w' ∧ Ext w w' := by
  have H := Lib.hid h
  have HR := Lib.hid hr
  clear h
  by_cases hz : er = 0
  · subst hz
    have HU : Hid (Tm.nrm ps = us) := Lib.hid (by rw [← hu]; unfold Tm.uniV; rw [if_pos hr])
    clear hr hu
    go_enter Try.func19, Try.ntmps19
    go_wp2_with fail
    refine (refcheck_to A c ps HR.out _ H.out).mono ?_
    rintro e w1 ⟨rfl, hb1⟩
    go_wp2_with fail
    refine (refminus1_to A c ps us HU.out HR.out _ (H.out.ext hb1)).mono ?_
    rintro e w2 ⟨X, xc, rfl, hX, hb2⟩
    go_wp2
    refine bodyPost_ret (v := .tuple #[.slice X us.length xc, .int .i64 0]) (by simp [results, Try.results19, go_sem]) rfl ?_
    exact ⟨X, xc, rfl, hX, hb1.trans hb2⟩
  · have hzb : (er != 0) = true := by rw [bne_iff_ne]; exact hz
    have hus : us = [] := by rw [← hu]; unfold Tm.uniV; rw [if_neg (by rw [hr]; exact hz)]
    subst hus
    clear hr hu hz
    go_enter Try.func19, Try.ntmps19
    go_wp2_with fail
    refine (refcheck_to A c ps HR.out _ H.out).mono ?_
    rintro e w1 ⟨rfl, hb1⟩
    go_wp2
    refine bodyPost_ret (v := .tuple #[.slice none 0 0, .int .i64 er]) (by simp [results, Try.results19, go_sem]) rfl ?_
    exact ⟨none, 0, rfl, pl_nil _, hb1⟩

set_option maxHeartbeats 800000 in
theorem refMinus_to (A : Option Addr) (c : Nat) (a : List (Int × Int)) (B : Option Addr) (d : Nat) (b us : List (Int × Int)) {er : Int} (hu : Tm.minV a b = us) (hr : Tm.chk [a, b] = er) (w : World) (h : (⟨A, c, a⟩ : PL).In w) (h2 : (⟨B, d, b⟩ : PL).In w) :
    Calls Try.prog 20 #[.slice A a.length c, .slice B b.length d] w fun e w' => ∃ (X : Option Addr) (xc : Nat), e = .returned (.tuple #[.slice X us.length xc, .int .i64 er]) ∧ (⟨X, xc, us⟩ : PL).In w' ∧ Ext w w' := by
  have H := Lib.hid h
  have H2 := Lib.hid h2
  have HR := Lib.hid hr
  clear h h2
  by_cases hz : er = 0
  · subst hz
    have HU := Lib.hid hu
    clear hr hu
    go_enter Try.func20, Try.ntmps20
    go_wp2_with fail
    refine (refcheck2_to A c a B d b HR.out _ H.out H2.out).mono ?_
    rintro e w1 ⟨rfl, hb1⟩
    go_wp2_with fail
    refine (refminus2_to A c a B d b us HU.out HR.out _ (H.out.ext hb1) (H2.out.ext hb1)).mono ?_
    rintro e w2 ⟨X, xc, rfl, hX, hb2⟩
    go_wp2
    refine bodyPost_ret (v := .tuple #[.slice X us.length xc, .int .i64 0]) (by simp [results, Try.results20, go_sem]) rfl ?_
    exact ⟨X, xc, rfl, hX, hb1.trans hb2⟩
  · have hzb : (er != 0) = true := by rw [bne_iff_ne]; exact hz
    have hus : us = [] := by rw [← hu]; unfold Tm.minV; rw [if_neg (by rw [hr]; exact hz)]
    subst hus
    clear hr hu hz
    go_enter Try.func20, Try.ntmps20
    go_wp2_with fail
    refine (refcheck2_to A c a B d b HR.out _ H.out H2.out).mono ?_
    rintro e w1 ⟨rfl, hb1⟩
    go_wp2
    refine bodyPost_ret (v := .tuple #[.slice none 0 0, .int .i64 er]) (by simp [results, Try.results20, go_sem]) rfl ?_
    exact ⟨none, 0, rfl, pl_nil _, hb1⟩

set_option maxHeartbeats 1600000 in
theorem refTotal_to (A : Option Addr) (c : Nat) (ps : List (Int × Int)) {n er : Int} (hu : Tm.totV ps = n) (hr : Tm.chk [ps] = er) (w : World) (h : (⟨A, c, ps⟩ : PL).In w) :
    Calls Try.prog 21 #[.slice A ps.length c] w fun e w' => e = .returned (.tuple #[.int .i64 n, .int .i64 er]) ∧ Ext w w' := by
  have H := Lib.hid h
  have HR := Lib.hid hr
  clear h
  obtain ⟨us, hus⟩ : ∃ us, Tm.uniV ps = us := ⟨_, rfl⟩
  have HU := Lib.hid hus
  by_cases hz : er = 0
  · subst hz
    have HN : Hid (n = Tm.len us) := Lib.hid (by rw [← hu, ← hus]; unfold Tm.uniV Tm.totV; rw [if_pos hr, if_pos hr])
    have hall := Tm.chk_zero hr ps (by simp)
    obtain ⟨hok, hql⟩ := Tm.nrm_ok hall.2
    have he : Tm.nrm ps = us := by rw [← hus]; unfold Tm.uniV; rw [if_pos hr]
    rw [he] at hok hql
    have HOK := Lib.hid hok
    have hq3 : us.length ≤ 300 := by omega
    clear hr hu hus hall hok hql he
    go_enter Try.func21, Try.ntmps21
    go_wp2_with fail
    refine (refunion_to A c ps us HU.out HR.out _ H.out).mono ?_
    rintro e w2 ⟨X, xc, rfl, hX, hb2⟩
    have HX := Lib.hid hX
    clear hX
    go_wp2_with fail
    go_loopw [7, 6] (fun i v wr => ∃ (k : Nat) (x : Int), k ≤ us.length ∧ i = .int .i64 k ∧ v = .int .i64 x ∧ x = Tm.len (us.take k) ∧ 0 ≤ x ∧ x ≤ 1099511627776 * k ∧ Ext w2 wr) (fun i _ _ => us.length - (intOf i).toNat)
    case atStart => exact ⟨0, 0, by omega, rfl, rfl, rfl, by omega, by omega, Ext.refl _⟩
    case round =>
      obtain ⟨k, x, hk, rfl, rfl, hx, hx0, hx1, he⟩ := hrel
      have HXK := Lib.hid hx
      clear hx
      by_cases hlt : k < us.length
      · obtain ⟨p, hp⟩ : ∃ p, us[k]? = some p := ⟨us[k], List.getElem?_eq_getElem hlt⟩
        have hpo := HOK.out p (List.mem_of_getElem? hp)
        obtain ⟨xb, xo, rfl, hxb, d0, d1⟩ := (HX.out.1.ext he).at_ hp
        obtain ⟨p1, p2⟩ := p
        simp only [Tm.ok] at d0 d1 hpo
        obtain ⟨o1, o2, o3⟩ := hpo
        have HT : Hid (us.take (k + 1) = us.take k ++ [(p1, p2)]) := Lib.hid (by rw [List.take_add_one, hp]; rfl)
        have ki0 : (0 : Int) ≤ (k : Int) := by omega
        have ki1 : (k : Int) < (us.length : Int) := by omega
        clear hp
        go_wp2
        go_quiet (fail)
        go_wp2
        go_roundw
        case rel => exact ⟨k + 1, x + p2 - p1, by omega, by go_num, rfl, by rw [HT.out, Tm.len_snoc, ← HXK.out]; omega, by omega, by omega, he.drewN _⟩
        case measure => simp [intOf]; omega
      · go_wp2
        refine bodyPost_ret (v := .tuple #[.int .i64 x, .int .i64 0]) (by simp [results, Try.results21, go_sem]) rfl ⟨?_, hb2.trans he⟩
        rw [HN.out, HXK.out, List.take_of_length_le (by omega)]
  · have hzb : (er != 0) = true := by rw [bne_iff_ne]; exact hz
    have hn0 : n = 0 := by rw [← hu]; unfold Tm.totV; rw [if_neg (by rw [hr]; exact hz)]
    subst hn0
    clear hr hu hus hz
    go_enter Try.func21, Try.ntmps21
    go_wp2_with fail
    refine (refunion_to A c ps us HU.out HR.out _ H.out).mono ?_
    rintro e w1 ⟨X, xc, rfl, hX, hb1⟩
    clear hX
    go_wp2
    exact bodyPost_ret (v := .tuple #[.int .i64 0, .int .i64 er]) (by simp [results, Try.results21, go_sem]) rfl ⟨rfl, hb1⟩

theorem middling_any (A : Option Addr) (c n : Nat) (hn : n ≤ maxLen) (w : World) :
    Calls Try.prog 17 #[.slice A n c] w fun e w' => e = .returned (.bool (decide (60 < n) && decide (n ≤ 300))) ∧ Ext w w' := by
  unfold maxLen at hn

  by_cases h : 60 < n
  · have h1 : decide ((60 : Int) < (n : Int)) = true := by simp; omega
    have h2 : decide (60 < n) = true := by simp; omega
    go_enter Try.func17, Try.ntmps17
    go_wp2
    go_ret
    exact ⟨by rw [h2]; simp; omega, Ext.refl _⟩
  · have h1 : decide ((60 : Int) < (n : Int)) = false := by simp; omega
    have h2 : decide (60 < n) = false := by simp; omega
    go_enter Try.func17, Try.ntmps17
    go_wp2
    go_ret
    exact ⟨by rw [h2]; rfl, Ext.refl _⟩
theorem middling_to (A : Option Addr) (c n : Nat) (hn : n ≤ maxLen) {r : Bool} (hr : (decide (60 < n) && decide (n ≤ 300)) = r) (w : World) :
    Calls Try.prog 17 #[.slice A n c] w fun e w' => e = .returned (.bool r) ∧ Ext w w' := by
  subst hr
  exact middling_any A c n hn w

set_option maxRecDepth 100000 in
set_option maxHeartbeats 3200000 in
theorem timingCovers_walk (A : Option Addr) (c : Nat) (a : List (Int × Int)) (B : Option Addr) (d : Nat) (b : List (Int × Int)) (w : World) (h : (⟨A, c, a⟩ : PL).In w) (h2 : (⟨B, d, b⟩ : PL).In w) :
    Calls Try.prog 6 #[.slice A a.length c, .slice B b.length d] w fun e w' => e = .returned (.bool true) ∧ Ext w w' := by
  have HA := Lib.hid h
  have HB := Lib.hid h2
  have HLA : Hid (a.length ≤ maxLen) := Lib.hid (Nat.le_trans h.2.1 h.2.2.1)
  have HLB : Hid (b.length ≤ maxLen) := Lib.hid (Nat.le_trans h2.2.1 h2.2.2.1)
  clear h h2
  obtain ⟨ra, hra⟩ : ∃ r, (decide (60 < a.length) && decide (a.length ≤ 300)) = r := ⟨_, rfl⟩
  obtain ⟨rb, hrb⟩ : ∃ r, (decide (60 < b.length) && decide (b.length ≤ 300)) = r := ⟨_, rfl⟩
  have HRA := Lib.hid hra
  have HRB := Lib.hid hrb
  obtain ⟨us, hus⟩ : ∃ us, Tm.uniV a = us := ⟨_, rfl⟩
  obtain ⟨ms, hms⟩ : ∃ us, Tm.minV a b = us := ⟨_, rfl⟩
  obtain ⟨n, hn⟩ : ∃ n, Tm.totV a = n := ⟨_, rfl⟩
  obtain ⟨e1, he1⟩ : ∃ n, Tm.chk [a] = n := ⟨_, rfl⟩
  obtain ⟨e2, he2⟩ : ∃ n, Tm.chk [a, b] = n := ⟨_, rfl⟩
  have HU := Lib.hid hus
  have HM := Lib.hid hms
  have HN := Lib.hid hn
  have HE1 := Lib.hid he1
  have HE2 := Lib.hid he2
  clear hra hrb hus hms hn he1 he2
  go_enter Try.func6, Try.ntmps6
  go_wp2_with fail
  refine (middling_to A c a.length HLA.out HRA.out _).mono ?_
  rintro e w1 ⟨rfl, x1⟩
  cases ra with
  | true =>
    go_wp2
    go_ret
    exact ⟨rfl, x1⟩
  | false =>
    go_wp2_with fail
    refine (middling_to B d b.length HLB.out HRB.out _).mono ?_
    rintro e w2 ⟨rfl, hx2⟩
    have x2 := x1.trans hx2
    cases rb with
    | true =>
      go_wp2
      go_ret
      exact ⟨rfl, x2⟩
    | false =>
      go_wp2_with fail
      refine (union_to A c a HU.out HE1.out _ (HA.out.ext x2)).mono ?_
      rintro e w3 ⟨X, xc, rfl, hX, hx3⟩
      have HX := Lib.hid hX
      clear hX
      have x3 := x2.trans hx3
      go_wp2_with fail
      refine (refunion_to A c a us HU.out HE1.out _ (HA.out.ext x3)).mono ?_
      rintro e w4 ⟨Y, yc, rfl, hY, hx4⟩
      have HY := Lib.hid hY
      clear hY
      have x4 := x3.trans hx4
      go_wp2_with fail
      refine (pairs_eq X xc Y yc us _ (HX.out.1.ext hx4) HY.out.1 (Nat.le_trans HY.out.2.1 HY.out.2.2.1)).mono ?_
      rintro e w5 ⟨rfl, hx5⟩
      have x5 := x4.trans hx5
      go_wp2_with fail
      refine (minus_to A c a B d b HM.out HE2.out _ (HA.out.ext x5) (HB.out.ext x5)).mono ?_
      rintro e w6 ⟨Z, zc, rfl, hZ, hx6⟩
      have HZ := Lib.hid hZ
      clear hZ
      have x6 := x5.trans hx6
      go_wp2_with fail
      refine (refMinus_to A c a B d b ms HM.out HE2.out _ (HA.out.ext x6) (HB.out.ext x6)).mono ?_
      rintro e w7 ⟨V, vc, rfl, hV, hx7⟩
      have HV := Lib.hid hV
      clear hV
      have x7 := x6.trans hx7
      go_wp2_with fail
      refine (pairs_eq Z zc V vc ms _ (HZ.out.1.ext hx7) HV.out.1 (Nat.le_trans HV.out.2.1 HV.out.2.2.1)).mono ?_
      rintro e w8 ⟨rfl, hx8⟩
      have x8 := x7.trans hx8
      go_wp2_with fail
      refine (total_to A c a HN.out HE1.out _ (HA.out.ext x8)).mono ?_
      rintro e w9 ⟨rfl, hx9⟩
      have x9 := x8.trans hx9
      go_wp2_with fail
      refine (refTotal_to A c a HN.out HE1.out _ (HA.out.ext x9)).mono ?_
      rintro e w10 ⟨rfl, hx10⟩
      go_wp2
      go_ret
      exact ⟨rfl, x9.trans hx10⟩

theorem timingCovers_lifted (os : Os) (started : os.Started) (H : Type) (enc : TypeId × Value → H) :
    ReturnsInHanded {} Try.checked os 6 .any (Rows.timingCoversSpec.pre6 enc Try.prog Try.f6 Rows.timingCoversRow.domain false) (Rows.timingCoversSpec.post enc Try.prog Try.f6 false true false false) := by
  refine returnsInHanded_of_change (C := Try.checked) Try.own started (by kernel_rfl) Try.func6
    (ChangeSpec.witness6 (enc := enc) (C := Try.checked) false ⟨#[], #[.slice none 0 0, .slice none 0 0], []⟩ 8 (by kernel_rfl) (by kernel_rfl) (by kernel_rfl) (by kernel_rfl)) ?_
  intro W base args ds gs before hval0 hW _ _
  have hval : ∀ (j : Nat) t v, Try.f6.params[j]? = some t → args[j]? = some v → Value.okWide Try.prog W .any base t v := hval0
  have hW' := hW
  obtain ⟨p, q, hA0, hV, rfl, hfz, hnd⟩ := hW
  have hA : DataW.TrodAll enc Try.prog W 0 (fun _ => true) true Try.f6.params.toList args.toList ds p := hA0
  rw [Try.params6] at hA hval
  obtain ⟨v0, vs0, d0, ds0, p0, q0, hargs, rfl, rfl, h0, r0⟩ := trodAll_cons hA
  obtain ⟨v1, vs1, d1, ds1, p1, q1, rfl, rfl, rfl, h1, r1⟩ := trodAll_cons r0
  obtain ⟨rfl, rfl, rfl⟩ := trodAll_nil r1
  obtain rfl : args = #[v0, v1] := by cases args; simp_all
  obtain ⟨rfl, rfl⟩ := trodVars_none hV
  obtain ⟨L0, c0, a, rfl, hp0⟩ := pairs_open (hval 0 31 v0 rfl rfl) h0
  obtain ⟨L1, c1, b, rfl, hp1⟩ := pairs_open (hval 1 31 v1 rfl rfl) h1
  refine (timingCovers_walk L0 c0 a L1 c1 b W hp0 hp1).mono fun e W' ⟨he, hw⟩ => ?_
  subst he
  exact ⟨_, rfl, law_post hW' Try.laidOut (by kernel_rfl) rfl (by rfl) rfl Try.underlying4 hw⟩

theorem timingCovers_holds : Rows.TimingCoversSaid :=
  OpenClaim.holds_of_wide 6 Try.f6 rfl rfl rfl rfl rfl rfl rfl ⟨rfl, rfl, rfl, rfl, rfl⟩ rfl rfl rfl rfl rfl (by kernel_rfl) Try.func6 (by kernel_rfl)
    (of_decide_eq_true (by kernel_rfl)) (by unfold Func.isWrapper; first | (rw [if_pos (by decide +kernel)]; kernel_rfl) | (rw [if_neg (by decide +kernel)]; exact ⟨rfl, rfl⟩))
    (fun os started H enc _ => timingCovers_lifted os started H enc)
#print axioms timingCovers_holds
end Go.Proofs.Ytpdboefaedocfaa
