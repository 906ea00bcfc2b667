/- IncidentMerge: for every input the law returns true. Conditions: the table of powers lies as the row says. -/
import Derived.Test.YtcpapnnghclbmaaDoorInO
import Derived.Test.YtcpapnnghclbmaaDoorInP
import Derived.Test.YtcpapnnghclbmaaDoorInQ
namespace Go.Proofs.YtcpapnnghclbmaaDoor
open Go.ChangeShapes Go.WideShapes Go.ChangeAt Go.RowKit

theorem NL.In.sl {w : World} {h : NL} (hi : h.In w) : SlN w h.A h.xs := hi.1
namespace In
theorem merge_steps {a b : List Inc} (h : merE a b = 0) {k : Nat} {p q : Inc} (hq : (merL a b)[k]? = some q) (hp : (merL a b)[k + 1]? = some p) : q.2.1 ≤ p.2.1 ∧ p ≠ q := by
  have hs := mrg_str a b
  rw [merL_of h] at hp hq
  unfold Str at hs
  rw [List.pairwise_iff_getElem] at hs
  obtain ⟨h1, rfl⟩ := List.getElem?_eq_some_iff.1 hq
  obtain ⟨h2, rfl⟩ := List.getElem?_eq_some_iff.1 hp
  have hl := hs k (k + 1) h1 h2 (by omega)
  refine ⟨?_, fun e => ?_⟩
  · unfold Lt at hl; omega
  · rw [e] at hl; exact Lt.irrefl _ hl
end In
set_option maxRecDepth 100000 in
set_option maxHeartbeats 12800000 in
theorem incidentMerge_walk (A : Option Addr) (c : Nat) (a : List In.Inc) (B : Option Addr) (d : Nat) (b : List In.Inc) (w : World) (h1 : (⟨A, c, a⟩ : NL).In w) (h2 : (⟨B, d, b⟩ : NL).In w) (ht : Tab w) :
    Calls Tryd.prog 6 #[.slice A a.length c, .slice B b.length d] w fun e w' => e = .returned (.bool true) ∧ Ext w w' := by
  have hal : a.length ≤ maxLen := Nat.le_trans h1.2.1 h1.2.2.1
  have hbl : b.length ≤ maxLen := Nat.le_trans h2.2.1 h2.2.2.1
  have HA := Lib.hid h1
  have HB := Lib.hid h2
  have HT := Lib.hid ht
  clear h1 h2 ht
  obtain ⟨n, hn⟩ : ∃ n, a.length = n := ⟨_, rfl⟩
  rw [hn] at hal ⊢
  have Hn := Lib.hid hn
  clear hn
  obtain ⟨m, hm⟩ : ∃ n, b.length = n := ⟨_, rfl⟩
  rw [hm] at hbl ⊢
  have Hm := Lib.hid hm
  clear hm
  have HAL := Lib.hid hal
  have HBL := Lib.hid hbl
  clear hal hbl
  obtain ⟨e1, he1⟩ : ∃ v, In.merE a b = v := ⟨_, rfl⟩
  obtain ⟨e2, he2⟩ : ∃ v, In.merE b a = v := ⟨_, rfl⟩
  obtain ⟨l1, hl1⟩ : ∃ v, In.merL a b = v := ⟨_, rfl⟩
  have hl2 : In.merL b a = l1 := by rw [← hl1, In.merL_comm]
  obtain ⟨r, hr⟩ : ∃ v, l1.length = v := ⟨_, rfl⟩
  have hr3 : r ≤ 300 := by
    rw [← hr, ← hl1]
    unfold In.merL
    split
    · rename_i hz; exact (In.merE_zero.1 hz).2.2
    · simp
  have hr3' : (r : Int) ≤ 300 := by omega
  have hz12 : e1 = 0 ↔ e2 = 0 := by rw [← he1, ← he2]; exact In.merE_comm
  have HZ := Lib.hid hz12
  have HE1 := Lib.hid he1
  have HE2 := Lib.hid he2
  have HL1 := Lib.hid hl1
  have HL2 := Lib.hid hl2
  have HR := Lib.hid hr
  clear he1 he2 hl1 hl2 hr hz12
  go_enter Tryd.func6, Tryd.ntmps6
  go_wp2_with fail
  with_reducible refine (merge_to A c a B d b Hn.out Hm.out HL1.out HR.out HE1.out _ HA.out HB.out).mono ?_
  rintro e w1 ⟨X, xc, rfl, hX, hb1⟩
  have x1 := hb1
  have HX := Lib.hid hX
  clear hX
  have HA1 := Lib.hid (HA.out.ext x1)
  have HB1 := Lib.hid (HB.out.ext x1)
  go_wp2_with fail
  with_reducible refine (merge_to B d b A c a Hm.out Hn.out HL2.out HR.out HE2.out _ HB1.out HA1.out).mono ?_
  rintro e w2 ⟨Y, yc, rfl, hY, hb2⟩
  have x2 := x1.trans hb2
  have HY := Lib.hid hY
  have HX2 := Lib.hid (HX.out.ext hb2)
  have HA2 := Lib.hid (HA1.out.ext hb2)
  have HB2 := Lib.hid (HB1.out.ext hb2)
  have HT2 := Lib.hid (HT.out.ext x2)
  clear hY hb1 hb2 HX HA1 HB1
  by_cases z1 : e1 = 0
  · have z2 : e2 = 0 := HZ.out.1 z1
    have z1' : (e1 != 0) = false := by rw [z1]; rfl
    have z2' : (e2 != 0) = false := by rw [z2]; rfl
    have HE : Hid (In.merE a b = 0) := Lib.hid (HE1.out.trans z1)
    obtain ⟨g1, g2⟩ := In.again HE.out
    rw [HL1.out] at g1 g2
    have HG1 := Lib.hid g1
    have HG2 := Lib.hid g2
    have HW1 : Hid (∀ p ∈ a, p ∈ l1) := Lib.hid (fun p hp => by rw [← HL1.out, In.merL_of HE.out]; exact In.mrg_mem.2 (Or.inl hp))
    have HW2 : Hid (∀ p ∈ b, p ∈ l1) := Lib.hid (fun p hp => by rw [← HL1.out, In.merL_of HE.out]; exact In.mrg_mem.2 (Or.inr hp))
    have HW3 : Hid (∀ p ∈ l1, p ∈ a ∨ p ∈ b) := Lib.hid (fun p hp => by rw [← HL1.out, In.merL_of HE.out] at hp; exact In.mrg_mem.1 hp)
    have HRL : Hid (r ≤ maxLen) := Lib.hid (by unfold maxLen; omega)
    clear z1 z2 g1 g2
    go_wp2_with fail
    with_reducible refine (within_all A c a X xc l1 n r Hn.out HR.out HW1.out _ HA2.out.sl HX2.out.sl HAL.out HRL.out).mono ?_
    rintro e w3 ⟨rfl, hb3⟩
    have x3 := x2.trans hb3
    have HA3 := Lib.hid (HA2.out.ext hb3)
    have HB3 := Lib.hid (HB2.out.ext hb3)
    have HX3 := Lib.hid (HX2.out.ext hb3)
    have HY3 := Lib.hid (HY.out.ext hb3)
    clear hb3
    go_wp2_with fail
    with_reducible refine (within_all B d b X xc l1 m r Hm.out HR.out HW2.out _ HB3.out.sl HX3.out.sl HBL.out HRL.out).mono ?_
    rintro e w4 ⟨rfl, hb4⟩
    have x4 := x3.trans hb4
    have HA4 := Lib.hid (HA3.out.ext hb4)
    have HB4 := Lib.hid (HB3.out.ext hb4)
    have HX4 := Lib.hid (HX3.out.ext hb4)
    have HY4 := Lib.hid (HY3.out.ext hb4)
    clear hb4
    go_wp2_with fail
    with_reducible refine (same_eq X xc Y yc l1 r HR.out _ HX4.out.sl HY4.out.sl (by omega)).mono ?_
    rintro e w5 ⟨rfl, hb5⟩
    have x5 := x4.trans hb5
    have HA5 := Lib.hid (HA4.out.ext hb5)
    have HB5 := Lib.hid (HB4.out.ext hb5)
    have HX5 := Lib.hid (HX4.out.ext hb5)
    clear hb5
    go_wp2
    go_loopw [9] (fun i wr => ∃ k : Nat, k ≤ r ∧ i = .int .i64 k ∧ Ext w5 wr) (fun i _ => r - (intOf i).toNat)
    case atStart => exact ⟨0, by omega, rfl, Ext.refl _⟩
    case round =>
      obtain ⟨k, hk, rfl, he⟩ := hrel
      have HA6 := Lib.hid (HA5.out.ext he)
      have HB6 := Lib.hid (HB5.out.ext he)
      have HX6 := Lib.hid (HX5.out.ext he)
      by_cases hlt : k < r
      · obtain ⟨p, hp⟩ : ∃ p, l1[k]? = some p := ⟨l1[k]'(by rw [HR.out]; exact hlt), List.getElem?_eq_getElem _⟩
        have HP := Lib.hid hp
        obtain ⟨gb, go, rfl, hgb, p0, p1, p2, p3⟩ := HX6.out.sl.at_ hp
        have ki0 : (0 : Int) ≤ (k : Int) := by omega
        have ki1 : (k : Int) < (r : Int) := by omega
        have HOR : Hid (p ∈ a ∨ p ∈ b) := Lib.hid (HW3.out p (List.mem_of_getElem? hp))
        clear hp
        obtain ⟨v, hv⟩ : ∃ v, decide (p ∈ a) = v := ⟨_, rfl⟩
        have HV := Lib.hid hv
        clear hv
        cases v with
        | true =>
          go_wp2_with fail
          with_reducible refine (has_any A c a p n Hn.out HV.out _ HA6.out.sl HAL.out).mono ?_
          rintro e w6 ⟨rfl, hb6⟩
          have he7 := he.trans hb6
          have HX7 := Lib.hid (HX6.out.sl.ext hb6)
          have q0 := hb6.keep p0
          have q1 := hb6.keep p1
          have q2 := hb6.keep p2
          have q3 := hb6.keep p3
          clear p0 p1 p2 p3 hb6
          by_cases hk0 : k = 0
          · subst hk0
            go_wp2
            go_quiet (fail)
            go_wp2
            go_roundw
            case rel => exact ⟨1, by omega, by go_num, he7.drewN _⟩
            case measure => simp [intOf]; omega
          · obtain ⟨j, hj⟩ : ∃ j, k = j + 1 := ⟨k - 1, by omega⟩
            obtain ⟨q, hq⟩ : ∃ q, l1[j]? = some q := ⟨l1[j]'(by rw [HR.out]; omega), List.getElem?_eq_getElem _⟩
            obtain ⟨hs1, hs2⟩ := In.merge_steps HE.out (by rw [HL1.out]; exact hq) (by rw [HL1.out, ← hj]; exact HP.out)
            obtain ⟨gb2, go2, hgg, hgb2, r0, r1, r2, r3⟩ := HX7.out.at_ hq
            injection hgg with hgg
            injection hgg with hg1 hg2
            subst hg1 hg2
            have hE := fun w => run_eql_inc p q (v := false) (decide_eq_false hs2) w
            have hs1' : ¬ p.2.1 < q.2.1 := by omega
            have hj2 : (0 : Int) < (k : Int) := by omega
            have hj5 : 0 < k := by omega
            have hj6 : decide (0 < k) = true := by rw [decide_eq_true_eq]; exact hj5
            have kj0 : (0 : Int) ≤ (k : Int) - 1 := by omega
            have kj1 : (k : Int) - 1 < (r : Int) := by omega
            have kj2 : 1 ≤ (k : Int) := by omega
            have hwr : IntKind.i64.wrap ((k : Int) - 1) = (k : Int) - 1 := IntWalk.i64_in _ (by omega)
            have hjk : j = k - 1 := by omega
            subst hjk
            have e1 : ((k : Int) - 1).toNat = k - 1 := by omega
            clear hq hs2 hs1 hj hk0
            go_wp2
            go_quiet (fail)
            go_wp2
            go_roundw
            case rel => exact ⟨k + 1, by omega, by go_num, he7.drewN _⟩
            case measure => simp [intOf]; omega
        | false =>
          have HV2 : Hid (decide (p ∈ b) = true) := Lib.hid (by
            rw [decide_eq_true_eq]
            rcases HOR.out with g | g
            · exact absurd g (of_decide_eq_false HV.out)
            · exact g)
          go_wp2_with fail
          with_reducible refine (has_any A c a p n Hn.out HV.out _ HA6.out.sl HAL.out).mono ?_
          rintro e w60 ⟨rfl, hb60⟩
          have HB7 := Lib.hid (HB6.out.sl.ext hb60)
          have c0 := hb60.keep p0
          have c1 := hb60.keep p1
          have c2 := hb60.keep p2
          have c3 := hb60.keep p3
          go_wp2_with fail
          with_reducible refine (has_any B d b p m Hm.out HV2.out _ HB7.out HBL.out).mono ?_
          rintro e w6 ⟨rfl, hb61⟩
          have hb6 := hb60.trans hb61
          clear hb60 hb61 c0 c1 c2 c3
          have he7 := he.trans hb6
          have HX7 := Lib.hid (HX6.out.sl.ext hb6)
          have q0 := hb6.keep p0
          have q1 := hb6.keep p1
          have q2 := hb6.keep p2
          have q3 := hb6.keep p3
          clear p0 p1 p2 p3 hb6
          by_cases hk0 : k = 0
          · subst hk0
            go_wp2
            go_quiet (fail)
            go_wp2
            go_roundw
            case rel => exact ⟨1, by omega, by go_num, he7.drewN _⟩
            case measure => simp [intOf]; omega
          · obtain ⟨j, hj⟩ : ∃ j, k = j + 1 := ⟨k - 1, by omega⟩
            obtain ⟨q, hq⟩ : ∃ q, l1[j]? = some q := ⟨l1[j]'(by rw [HR.out]; omega), List.getElem?_eq_getElem _⟩
            obtain ⟨hs1, hs2⟩ := In.merge_steps HE.out (by rw [HL1.out]; exact hq) (by rw [HL1.out, ← hj]; exact HP.out)
            obtain ⟨gb2, go2, hgg, hgb2, r0, r1, r2, r3⟩ := HX7.out.at_ hq
            injection hgg with hgg
            injection hgg with hg1 hg2
            subst hg1 hg2
            have hE := fun w => run_eql_inc p q (v := false) (decide_eq_false hs2) w
            have hs1' : ¬ p.2.1 < q.2.1 := by omega
            have hj2 : (0 : Int) < (k : Int) := by omega
            have hj5 : 0 < k := by omega
            have hj6 : decide (0 < k) = true := by rw [decide_eq_true_eq]; exact hj5
            have kj0 : (0 : Int) ≤ (k : Int) - 1 := by omega
            have kj1 : (k : Int) - 1 < (r : Int) := by omega
            have kj2 : 1 ≤ (k : Int) := by omega
            have hwr : IntKind.i64.wrap ((k : Int) - 1) = (k : Int) - 1 := IntWalk.i64_in _ (by omega)
            have hjk : j = k - 1 := by omega
            subst hjk
            have e1 : ((k : Int) - 1).toNat = k - 1 := by omega
            clear hq hs2 hs1 hj hk0
            go_wp2
            go_quiet (fail)
            go_wp2
            go_roundw
            case rel => exact ⟨k + 1, by omega, by go_num, he7.drewN _⟩
            case measure => simp [intOf]; omega
      · go_wp2_with fail
        with_reducible refine (merge_to X xc l1 A c a HR.out Hn.out HG2.out HR.out HG1.out _ HX6.out HA6.out).mono ?_
        rintro e w7 ⟨U, uc, rfl, hU, hb7⟩
        have x7 := (x5.trans he).trans hb7
        have HU := Lib.hid hU.1
        have HX7 := Lib.hid (HX6.out.ext hb7)
        clear hU hb7
        go_wp2_with fail
        with_reducible refine (same_eq U uc X xc l1 r HR.out _ HU.out HX7.out.sl (by omega)).mono ?_
        rintro e w8 ⟨rfl, hb8⟩
        have x8 := x7.trans hb8
        have HT8 := Lib.hid (HT.out.ext x8)
        go_wp2_with fail
        with_reducible refine (awake_any _ HT8.out).mono ?_
        rintro e w9 ⟨rfl, hb9⟩
        go_wp2
        go_ret
        exact ⟨rfl, x8.trans hb9⟩
  · have z2 : ¬ e2 = 0 := fun e => z1 (HZ.out.2 e)
    have z1' : (e1 != 0) = true := by rw [bne_iff_ne]; exact z1
    have z2' : (e2 != 0) = true := by rw [bne_iff_ne]; exact z2
    have y1 : (e1 == 0) = false := by rw [beq_eq_false_iff_ne]; exact z1
    have y2 : (e2 == 0) = false := by rw [beq_eq_false_iff_ne]; exact z2
    clear z1 z2
    go_wp2_with fail
    with_reducible refine (awake_any _ HT2.out).mono ?_
    rintro e w3 ⟨rfl, hb3⟩
    go_wp2
    go_ret
    exact ⟨rfl, x2.trans hb3⟩

theorem incidentMerge_laid (os : Os) : laidMet Tryd.prog Rows.incidentMergeRow.laid ((laidW os).forCall (fun _ _ => 0) ⟨#[], #[.slice none 0 0, .slice none 0 0], []⟩).memory :=
  laidMet_of_run' 8 (by kernel_rfl) (by kernel_rfl)
theorem incidentMerge_reads (os : Os) {H : Type} (enc : TypeId × Value → H) : ∃ places, DataW.whole enc Tryd.prog ((laidW os).forCall (fun _ _ => 0) ⟨#[], #[.slice none 0 0, .slice none 0 0], []⟩).memory Tryd.f6.params.toList Rows.incidentMergeSpec.vars false (#[.slice none 0 0, .slice none 0 0] : Array Value).toList 8 = some ([.nil, .nil], [], places) :=
  ⟨[], by kernel_rfl⟩
set_option maxRecDepth 100000 in
theorem incidentMerge_lifted (os : Os) (started : os.Started) (H : Type) (enc : TypeId × Value → H) (F : Stop.Interp) :
    ReturnsInHanded {} Tryd.checked os 6 .any ((OpenSpec.ofChange Rows.incidentMergeSpec).preRow enc Tryd.prog Tryd.f6 Rows.incidentMergeRow.domain false Rows.incidentMergeRow.laid) (((OpenSpec.ofChange Rows.incidentMergeSpec).at F).post enc Tryd.prog Tryd.f6 false true false false) := by
  obtain ⟨places, hx⟩ := incidentMerge_reads os enc
  refine returnsInHanded_of_row (C := Tryd.checked) (s := (OpenSpec.ofChange Rows.incidentMergeSpec)) Tryd.own started (by kernel_rfl) Tryd.func6
    (witness_row_at (enc := enc) (C := Tryd.checked) false (laidW os) #[.slice none 0 0, .slice none 0 0] rfl (by kernel_rfl) (by kernel_rfl) (by kernel_rfl)
      (OpenSpec.preRow_of_cond 8 hx (by kernel_rfl) (fun k hk => by cases hk) (by kernel_rfl) (incidentMerge_laid os))) ?_
  intro W base args ds gs before hval0 hW _ hcond hsz0 hL hsh _
  have hval : ∀ (j : Nat) t v, Tryd.f6.params[j]? = some t → args[j]? = some v → Value.okWide Tryd.prog W .any base t v := hval0
  have hW' : DataW.Whole enc Tryd.prog Tryd.f6.params.toList Rows.incidentMergeSpec.vars false W args.toList ds gs before := hW
  have hW2 := hW'
  obtain ⟨p, q, hA0, hV, rfl, hfz, hnd⟩ := hW2
  have hA : DataW.TrodAll enc Tryd.prog W 0 (fun _ => true) true Tryd.f6.params.toList args.toList ds p := hA0
  rw [Tryd.params6] at hA hval
  obtain ⟨v0, vs0, d0, ds0, p0, q0, hargs, rfl, rfl, h0, r0⟩ := trodAll_cons hA
  obtain ⟨v1, vs1, d1, ds1, p1, q1, rfl, rfl, rfl, h1, r1⟩ := trodAll_cons r0
  obtain ⟨rfl, rfl, rfl⟩ := trodAll_nil r1
  obtain rfl : args = #[v0, v1] := by cases args; simp_all
  obtain ⟨rfl, rfl⟩ := trodVars_none hV
  obtain ⟨A, c, a, rfl, hR1⟩ := incs_open (hval 0 24 v0 rfl rfl) h0
  obtain ⟨B, d, b, rfl, hR2⟩ := incs_open (hval 1 24 v1 rfl rfl) h1
  refine (incidentMerge_walk A c a B d b W hR1 hR2 (tab_of hL)).mono fun e W' ⟨he, hw⟩ => ?_
  subst he
  exact ⟨_, rfl, law_post (s := Rows.incidentMergeSpec) hW' Tryd.laidOut (by kernel_rfl) rfl (by rfl) rfl Tryd.underlying4 hw⟩

theorem incidentMerge_holds : Rows.IncidentMergeSaid :=
  OpenClaim.holds_of_cond 6 Tryd.f6 rfl rfl rfl rfl rfl rfl rfl ⟨rfl, rfl, rfl, rfl, rfl⟩ rfl rfl rfl rfl rfl (by kernel_rfl) Tryd.func6 (by kernel_rfl)
    (of_decide_eq_true (by kernel_rfl)) (by unfold Func.isWrapper; first | (rw [if_pos (by decide +kernel)]; kernel_rfl) | (rw [if_neg (by decide +kernel)]; exact ⟨rfl, rfl⟩))
    (fun os started H enc _ F => by rw [OpenClaim.pre_eq_preRow]; exact incidentMerge_lifted os started H enc F)
theorem incidentMerge_card : Rows.IncidentMergeCardSaid :=
  Claim7.holds_tied_plain_at .later [] _ _ _ _
    incidentMerge_holds (fun _ h => by cases h) (by kernel_rfl) (fun _ h => by cases h) incidentMerge_row_tie rfl ⟨rfl, rfl⟩ (by kernel_rfl) rfl
    (fun f fn hf hfn => by
      obtain rfl : f = 6 := Option.some.inj ((show Tryd.prog.funcNamed Rows.incidentMergeRow.func = some 6 by kernel_rfl).symm.trans hf) |>.symm
      obtain rfl : fn = Tryd.f6 := (Option.some.inj (Tryd.func6.symm.trans hfn)).symm
      exact ⟨by kernel_rfl, fun j t ht => by
        rw [Tryd.params6] at ht
        have hm : t ∈ [24, 24] := by simpa using Array.mem_of_getElem? ht
        have hall : ([24, 24].all fun u => !Tryd.prog.wantsStandIn u) = true := by kernel_rfl
        exact (show Tryd.prog.wantsStandIn t = false by simpa using List.all_eq_true.1 hall t hm)⟩)
    (by kernel_rfl)
#print axioms incidentMerge_card
end Go.Proofs.YtcpapnnghclbmaaDoor
