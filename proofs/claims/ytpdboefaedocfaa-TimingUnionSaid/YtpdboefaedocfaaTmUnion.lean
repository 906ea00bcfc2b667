/- TimingUnion: the walk and the law. Conditions: those of each theorem. -/
import Derived.Test.YtpdboefaedocfaaTmL
import Derived.Test.YtpdboefaedocfaaTmV
namespace Go.Proofs.Ytpdboefaedocfaa
open Go.ChangeShapes Go.WideShapes Go.ChangeAt Go.RowKit

theorem total_to (A : Option Addr) (c : Nat) (ps : List (Int × Int)) {t er : Int} (ht : Tm.totV ps = t) (he : Tm.chk [ps] = er) (w : World) (h : (⟨A, c, ps⟩ : PL).In w) :
    Calls Try.prog 14 #[.slice A ps.length c] w fun e w' => e = .returned (.tuple #[.int .i64 t, .int .i64 er]) ∧ Ext w w' := by
  subst ht he
  exact total_any A c ps w h
theorem minV_ok (ps qs : List (Int × Int)) : ∀ d ∈ Tm.minV ps qs, Tm.ok d := by
  unfold Tm.minV
  split
  · rename_i hz
    exact Tm.mns_ok (Tm.nrm_ok (Tm.chk_zero hz ps (by simp)).2).1 (Tm.nrm_norm (Tm.ok_lt (Tm.chk_zero hz qs (by simp)).2)).1.1
  · intro d hd; cases hd
theorem minus_to (A : Option Addr) (c : Nat) (ps : List (Int × Int)) (B : Option Addr) (d : Nat) (qs : List (Int × Int)) {ms : List (Int × Int)} {er : Int} (hm : Tm.minV ps qs = ms) (he : Tm.chk [ps, qs] = er) (w : World) (h : (⟨A, c, ps⟩ : PL).In w) (h2 : (⟨B, d, qs⟩ : PL).In w) :
    Calls Try.prog 15 #[.slice A ps.length c, .slice B qs.length d] w fun e w' => ∃ (X : Option Addr) (xc : Nat), e = .returned (.tuple #[.slice X ms.length xc, .int .i64 er]) ∧ (⟨X, xc, ms⟩ : PL).In w' ∧ Ext w w' := by
  subst hm he
  refine (minus_any A c ps B d qs w h h2).mono ?_
  rintro e w' ⟨X, xc, rfl, ho, hx⟩
  exact ⟨X, xc, rfl, pl_own ho (minV_ok ps qs), hx⟩
theorem union_to (A : Option Addr) (c : Nat) (ps : List (Int × Int)) {us : List (Int × Int)} {er : Int} (hu : Tm.uniV ps = us) (he : Tm.chk [ps] = er) (w : World) (h : (⟨A, c, ps⟩ : PL).In w) :
    Calls Try.prog 18 #[.slice A ps.length c] w fun e w' => ∃ (X : Option Addr) (xc : Nat), e = .returned (.tuple #[.slice X us.length xc, .int .i64 er]) ∧ (⟨X, xc, us⟩ : PL).In w' ∧ Ext w w' := by
  subst hu he
  exact union_any A c ps w h
theorem covers_to (X : Option Addr) (xc : Nat) (ps : List (Int × Int)) (x : Int) {r : Bool} (hr : Tm.cov ps x = r) (w : World) (ha : (⟨X, xc, ps⟩ : PL).In w) :
    Calls Try.prog 23 #[.slice X ps.length xc, .int .i64 x] w fun e w' => e = .returned (.bool r) ∧ Ext w w' := by
  subst hr
  exact covers_any X xc ps x w ha.1 (Nat.le_trans ha.2.1 ha.2.2.1)
theorem normal_tt (X : Option Addr) (xc : Nat) (ps : List (Int × Int)) (hn : Tm.Norm ps) (w : World) (ha : (⟨X, xc, ps⟩ : PL).In w) :
    Calls Try.prog 22 #[.slice X ps.length xc] w fun e w' => e = .returned (.bool true) ∧ Ext w w' :=
  isnormal_eq X xc ps w ha.1 (Nat.le_trans ha.2.1 ha.2.2.1) hn

set_option maxRecDepth 100000 in
set_option maxHeartbeats 6400000 in
theorem timingUnion_walk (A : Option Addr) (c : Nat) (a : List (Int × Int)) (B : Option Addr) (d : Nat) (b : List (Int × Int)) (x : Int) (w : World) (h : (⟨A, c, a⟩ : PL).In w) (h2 : (⟨B, d, b⟩ : PL).In w) :
    Calls Try.prog 7 #[.slice A a.length c, .slice B b.length d, .int .i64 x] w fun e w' => e = .returned (.bool true) ∧ Ext w w' := by
  have HA := Lib.hid h
  have HB := Lib.hid h2
  have hla : a.length ≤ maxLen := Nat.le_trans h.2.1 h.2.2.1
  have hlb : b.length ≤ maxLen := Nat.le_trans h2.2.1 h2.2.2.1
  unfold maxLen at hla hlb
  clear h h2
  by_cases ha : 60 < a.length
  · have ha1 : decide ((60 : Int) < (a.length : Int)) = true := by simp; omega
    have ha2 : decide (60 < a.length) = true := by simp; omega
    go_enter Try.func7, Try.ntmps7
    go_wp2
    go_ret
    exact ⟨rfl, Ext.refl _⟩
  have ha1 : decide ((60 : Int) < (a.length : Int)) = false := by simp; omega
  have ha2 : decide (60 < a.length) = false := by simp; omega
  by_cases hb : 60 < b.length
  · have hb1 : decide ((60 : Int) < (b.length : Int)) = true := by simp; omega
    have hb2 : decide (60 < b.length) = true := by simp; omega
    go_enter Try.func7, Try.ntmps7
    go_wp2
    go_ret
    exact ⟨rfl, Ext.refl _⟩
  have hb1 : decide ((60 : Int) < (b.length : Int)) = false := by simp; omega
  have hb2 : decide (60 < b.length) = false := by simp; omega
  obtain ⟨m, hm⟩ : ∃ m, Tm.minV a b = m := ⟨_, rfl⟩
  obtain ⟨f, hf⟩ : ∃ f, Tm.chk [a, b] = f := ⟨_, rfl⟩
  by_cases hz : Tm.chk [a] = 0
  · obtain ⟨g1, g2, g3, g4, g5, g6, g7, g8, g9, g10, g11⟩ := Tm.union_plain (b := b) hz (by omega)
    obtain ⟨u, hu⟩ : ∃ u, Tm.nrm a = u := ⟨_, rfl⟩
    rw [hu] at g1 g2 g3 g4 g5 g6 g10 g11
    rw [hm] at g7 g8
    rw [hf] at g8
    obtain ⟨cx, hcx⟩ : ∃ cx, Tm.cov a x = cx := ⟨_, rfl⟩
    obtain ⟨cb, hcb⟩ : ∃ cb, Tm.cov b x = cb := ⟨_, rfl⟩
    obtain ⟨n, hn⟩ : ∃ n, Tm.len u = n := ⟨_, rfl⟩
    rw [hn] at g2 g5
    have HZ := Lib.hid hz
    have HM := Lib.hid hm
    have HF := Lib.hid hf
    have HN := Lib.hid hn
    have G1 := Lib.hid g1
    have G2 := Lib.hid g2
    have G3 := Lib.hid g3
    have HCU : Hid (Tm.cov u x = cx) := Lib.hid (by rw [g4]; exact hcx)
    have HCX := Lib.hid hcx
    have HCB := Lib.hid hcb
    have G5 := Lib.hid g5
    have G6 := Lib.hid g6
    have G7 := Lib.hid g7
    have G8 : Hid (f = 0 → Tm.cov m x = (cx && !cb)) := Lib.hid (fun e => by rw [g8 e, hcx, hcb])
    have G9 := Lib.hid g9
    have G10 := Lib.hid g10
    clear g1 g2 g3 g4 g5 g6 g7 g8 g9 g10 hz hm hf hn hu hcx hcb
    go_enter Try.func7, Try.ntmps7
    go_wp2_with fail
    refine (union_to A c a G1.out HZ.out _ HA.out).mono ?_
    rintro e w1 ⟨U, uc, rfl, hU, hb1'⟩
    have HU := Lib.hid hU
    clear hU
    have e1 : Ext w w1 := hb1'
    go_wp2_with fail
    refine (minus_to A c a B d b HM.out HF.out _ (HA.out.ext e1) (HB.out.ext e1)).mono ?_
    rintro e w2 ⟨M, mc, rfl, hM, hb2'⟩
    have HMI := Lib.hid hM
    clear hM
    have e2 := e1.trans hb2'
    go_wp2_with fail
    refine (total_to A c a G2.out HZ.out _ (HA.out.ext e2)).mono ?_
    rintro e w3 ⟨rfl, hb3⟩
    have e3 := e2.trans hb3
    go_wp2_with fail
    refine (normal_tt U uc u G3.out _ (HU.out.ext (hb2'.trans hb3))).mono ?_
    rintro e w4 ⟨rfl, hb4⟩
    have e4 := e3.trans hb4
    go_wp2_with fail
    refine (normal_tt M mc m G7.out _ (HMI.out.ext (hb3.trans hb4))).mono ?_
    rintro e w5 ⟨rfl, hb5⟩
    have e5 := e4.trans hb5
    go_wp2_with fail
    refine (covers_to U uc u x HCU.out _ (HU.out.ext ((hb2'.trans hb3).trans (hb4.trans hb5)))).mono ?_
    rintro e w6 ⟨rfl, hb6⟩
    have e6 := e5.trans hb6
    go_wp2_with fail
    refine (covers_to A c a x HCX.out _ (HA.out.ext e6)).mono ?_
    rintro e w7 ⟨rfl, hb7⟩
    have e7 := e6.trans hb7
    have HU7 : Hid ((⟨U, uc, u⟩ : PL).In w7) := Lib.hid (HU.out.ext (((hb2'.trans hb3).trans (hb4.trans hb5)).trans (hb6.trans hb7)))
    have HM7 : Hid ((⟨M, mc, m⟩ : PL).In w7) := Lib.hid (HMI.out.ext ((hb3.trans (hb4.trans hb5)).trans (hb6.trans hb7)))
    clear HU HMI hb1' hb2' hb3 hb4 hb5 hb6 hb7 e1 e2 e3 e4 e5 e6
    go_wp2_with fail
    go_loopw [15, 13] (fun i v wr => ∃ (k : Nat) (y : Int), k ≤ u.length ∧ i = .int .i64 k ∧ v = .int .i64 y ∧ y = Tm.len (u.take k) ∧ 0 ≤ y ∧ y ≤ 1099511627776 * k ∧ Ext w7 wr) (fun i _ _ => u.length - (intOf i).toNat)
    case atStart => exact ⟨0, 0, by omega, rfl, rfl, rfl, by omega, by omega, Ext.refl _⟩
    case round =>
      obtain ⟨k, y, hk, rfl, rfl, hy, hy0, hy1, he⟩ := hrel
      have HYK := Lib.hid hy
      clear hy
      by_cases hlt : k < u.length
      · obtain ⟨p, hp⟩ : ∃ p, u[k]? = some p := ⟨u[k], List.getElem?_eq_getElem hlt⟩
        have hpo := G10.out p (List.mem_of_getElem? hp)
        obtain ⟨xb, xo, rfl, hxb, d0, d1⟩ := (HU7.out.1.ext he).at_ hp
        obtain ⟨p1, p2⟩ := p
        simp only [Tm.ok] at d0 d1 hpo
        obtain ⟨o1, o2, o3⟩ := hpo
        have HT : Hid (u.take (k + 1) = u.take k ++ [(p1, p2)]) := Lib.hid (by rw [List.take_add_one, hp]; rfl)
        have ki0 : (0 : Int) ≤ (k : Int) := by omega
        have ki1 : (k : Int) < (u.length : Int) := by omega
        clear hp
        go_wp2
        go_quiet (fail)
        go_wp2
        go_roundw
        case rel => exact ⟨k + 1, y + p2 - p1, by omega, by go_num, rfl, by rw [HT.out, Tm.len_snoc, ← HYK.out]; omega, by omega, by omega, he.drewN _⟩
        case measure => simp [intOf]; omega
      · have HSUM : Hid (y = n) := Lib.hid (by rw [HYK.out, List.take_of_length_le (by omega)]; exact HN.out)
        obtain ⟨w8, rfl⟩ : ∃ w8 : World, w8 = wr := ⟨_, rfl⟩
        have he8 : Ext w7 w8 := he
        have HU8 : Hid ((⟨U, uc, u⟩ : PL).In w8) := Lib.hid (HU7.out.ext he)
        have hyn := HSUM.out
        subst hyn
        clear HYK
        go_wp2_with fail
        clear hlt
        go_loopw [16, 14] (fun i v wr => ∃ (k : Nat) (z : Int), k ≤ a.length ∧ i = .int .i64 k ∧ v = .int .i64 z ∧ z = Tm.len (a.take k) ∧ 0 ≤ z ∧ z ≤ 1099511627776 * k ∧ Ext w8 wr) (fun i _ _ => a.length - (intOf i).toNat)
        case atStart => exact ⟨0, 0, by omega, rfl, rfl, rfl, by omega, by omega, Ext.refl _⟩
        case round =>
          obtain ⟨k, z, hk, rfl, rfl, hz, hz0, hz1, he⟩ := hrel
          have HZK := Lib.hid hz
          clear hz
          by_cases hlt : k < a.length
          · obtain ⟨p, hp⟩ : ∃ p, a[k]? = some p := ⟨a[k], List.getElem?_eq_getElem hlt⟩
            have hpo := G9.out p (List.mem_of_getElem? hp)
            have hpc := G6.out p (List.mem_of_getElem? hp)
            obtain ⟨xb, xo, rfl, hxb, d0, d1⟩ := ((HA.out.ext e7).1.ext (he8.trans he)).at_ hp
            obtain ⟨p1, p2⟩ := p
            simp only [Tm.ok] at d0 d1 hpo
            obtain ⟨o1, o2, o3⟩ := hpo
            have HC1 := Lib.hid hpc.1
            have HC2 := Lib.hid hpc.2
            have HT : Hid (a.take (k + 1) = a.take k ++ [(p1, p2)]) := Lib.hid (by rw [List.take_add_one, hp]; rfl)
            have ki0 : (0 : Int) ≤ (k : Int) := by omega
            have ki1 : (k : Int) < (a.length : Int) := by omega
            clear hp hpc
            go_wp2
            go_quiet (fail)
            go_wp2_with fail
            refine (covers_to U uc u p1 HC1.out _ ((HU8.out.ext he).ext ((Ext.refl _).drewN _))).mono ?_
            rintro e w9 ⟨rfl, hb9⟩
            have e9 := ((Ext.refl _).drewN _).trans hb9
            obtain ⟨hc9, hf9⟩ := e9.cells
            have d0' := e9.keep d0
            have d1' := e9.keep d1
            go_wp2_with fail
            refine (covers_to U uc u (p2 - 1) HC2.out _ ((HU8.out.ext he).ext e9)).mono ?_
            rintro e w10 ⟨rfl, hb10⟩
            go_wp2
            go_roundw
            case rel => exact ⟨k + 1, z + p2 - p1, by omega, by go_num, rfl, by rw [HT.out, Tm.len_snoc, ← HZK.out]; omega, by omega, by omega, (he.trans e9).trans hb10⟩
            case measure => simp [intOf]; omega
          · have hzl : y ≤ z := by rw [HZK.out, List.take_of_length_le (by omega)]; exact G5.out
            have hzl' : ¬ z < y := by omega
            have hzd : decide (z < y) = false := by rw [decide_eq_false_iff_not]; omega
            clear HZK
            by_cases hf : f = 0
            · have hfd : (f != 0) = false := by rw [hf]; rfl
              have HMC := Lib.hid (G8.out hf)
              clear hf
              have e11 := e7.trans (he8.trans he)
              go_wp2_with fail
              refine (covers_to M mc m x HMC.out _ (HM7.out.ext (he8.trans he))).mono ?_
              rintro e w11 ⟨rfl, hb11⟩
              go_wp2_with fail
              refine (covers_to A c a x HCX.out _ (HA.out.ext (e11.trans hb11))).mono ?_
              rintro e w12 ⟨rfl, hb12⟩
              have e12 := (e11.trans hb11).trans hb12
              cases cx with
              | false =>
                go_wp2
                go_ret
                exact ⟨rfl, e12⟩
              | true =>
                go_wp2_with fail
                refine (covers_to B d b x HCB.out _ (HB.out.ext e12)).mono ?_
                rintro e w13 ⟨rfl, hb13⟩
                go_wp2
                go_ret
                exact ⟨by simp, e12.trans hb13⟩
            · have hfd : (f != 0) = true := by rw [bne_iff_ne]; exact hf
              clear hf
              go_wp2
              go_ret
              exact ⟨rfl, e7.trans (he8.trans he)⟩
  · have hzb : (Tm.chk [a] != 0) = true := by rw [bne_iff_ne]; exact hz
    have hfz : f ≠ 0 := by rw [← hf]; exact Tm.chk_first hz
    have hfb : (f != 0) = true := by rw [bne_iff_ne]; exact hfz
    have hu : Tm.uniV a = [] := by unfold Tm.uniV; rw [if_neg hz]
    have ht : Tm.totV a = 0 := by unfold Tm.totV; rw [if_neg hz]
    have hm0 : Tm.minV a b = [] := by unfold Tm.minV; rw [if_neg (by rw [hf]; exact hfz)]
    obtain ⟨g, hg⟩ : ∃ g, Tm.chk [a] = g := ⟨_, rfl⟩
    rw [hg] at hzb
    have HU := Lib.hid hu
    have HT := Lib.hid ht
    have HM := Lib.hid hm0
    have HF := Lib.hid hf
    have HG := Lib.hid hg
    clear hu ht hm0 hf hg hz hm hfz
    go_enter Try.func7, Try.ntmps7
    go_wp2_with fail
    refine (union_to A c a HU.out HG.out _ HA.out).mono ?_
    rintro e w1 ⟨U, uc, rfl, hU, hb1'⟩
    clear hU
    go_wp2_with fail
    refine (minus_to A c a B d b HM.out HF.out _ (HA.out.ext hb1') (HB.out.ext hb1')).mono ?_
    rintro e w2 ⟨M, mc, rfl, hM, hb2'⟩
    clear hM
    go_wp2_with fail
    refine (total_to A c a HT.out HG.out _ (HA.out.ext (hb1'.trans hb2'))).mono ?_
    rintro e w3 ⟨rfl, hb3⟩
    go_wp2
    go_ret
    exact ⟨rfl, (hb1'.trans hb2').trans hb3⟩

theorem timingUnion_lifted (os : Os) (started : os.Started) (H : Type) (enc : TypeId × Value → H) :
    ReturnsInHanded {} Try.checked os 7 .any (Rows.timingUnionSpec.pre6 enc Try.prog Try.f7 Rows.timingUnionRow.domain false) (Rows.timingUnionSpec.post enc Try.prog Try.f7 false true false false) := by
  refine returnsInHanded_of_change (C := Try.checked) Try.own started (by kernel_rfl) Try.func7
    (ChangeSpec.witness6 (enc := enc) (C := Try.checked) false ⟨#[], #[.slice none 0 0, .slice none 0 0, .int .i64 0], []⟩ 8 (by kernel_rfl) (by kernel_rfl) (by kernel_rfl) (by kernel_rfl)) ?_
  intro W base args ds gs before hval0 hW _ _
  have hval : ∀ (j : Nat) t v, Try.f7.params[j]? = some t → args[j]? = some v → Value.okWide Try.prog W .any base t v := hval0
  have hW' := hW
  obtain ⟨p, q, hA0, hV, rfl, hfz, hnd⟩ := hW
  have hA : DataW.TrodAll enc Try.prog W 0 (fun _ => true) true Try.f7.params.toList args.toList ds p := hA0
  rw [Try.params7] at hA hval
  obtain ⟨v0, vs0, d0, ds0, p0, q0, hargs, rfl, rfl, h0, r0⟩ := trodAll_cons hA
  obtain ⟨v1, vs1, d1, ds1, p1, q1, rfl, rfl, rfl, h1, r1⟩ := trodAll_cons r0
  obtain ⟨v2, vs2, d2, ds2, p2, q2, rfl, rfl, rfl, h2, r2⟩ := trodAll_cons r1
  obtain ⟨rfl, rfl, rfl⟩ := trodAll_nil r2
  obtain rfl : args = #[v0, v1, v2] := by cases args; simp_all
  obtain ⟨rfl, rfl⟩ := trodVars_none hV
  obtain ⟨L0, c0, a, rfl, hp0⟩ := pairs_open (hval 0 31 v0 rfl rfl) h0
  obtain ⟨L1, c1, b, rfl, hp1⟩ := pairs_open (hval 1 31 v1 rfl rfl) h1
  obtain ⟨x, rfl, hd2, rfl, _⟩ := open_int Try.underlying3 (hval 2 3 v2 rfl rfl) h2
  refine (timingUnion_walk L0 c0 a L1 c1 b x W hp0 hp1).mono fun e W' ⟨he, hw⟩ => ?_
  subst he
  exact ⟨_, rfl, law_post hW' Try.laidOut (by kernel_rfl) rfl (by rfl) rfl Try.underlying4 hw⟩

theorem timingUnion_holds : Rows.TimingUnionSaid :=
  OpenClaim.holds_of_wide 7 Try.f7 rfl rfl rfl rfl rfl rfl rfl ⟨rfl, rfl, rfl, rfl, rfl⟩ rfl rfl rfl rfl rfl (by kernel_rfl) Try.func7 (by kernel_rfl)
    (of_decide_eq_true (by kernel_rfl)) (by unfold Func.isWrapper; first | (rw [if_pos (by decide +kernel)]; kernel_rfl) | (rw [if_neg (by decide +kernel)]; exact ⟨rfl, rfl⟩))
    (fun os started H enc _ => timingUnion_lifted os started H enc)
#print axioms timingUnion_holds
end Go.Proofs.Ytpdboefaedocfaa
