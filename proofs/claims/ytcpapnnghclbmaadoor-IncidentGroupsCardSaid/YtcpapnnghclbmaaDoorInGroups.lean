/- IncidentGroups: for every input the law returns true. Conditions: the table of powers lies as the row says. -/
import Derived.Test.YtcpapnnghclbmaaDoorInO
import Derived.Test.YtcpapnnghclbmaaDoorInP
namespace Go.Proofs.YtcpapnnghclbmaaDoor
open Go.ChangeShapes Go.WideShapes Go.ChangeAt Go.RowKit

set_option maxRecDepth 100000 in
set_option maxHeartbeats 6400000 in
theorem incidentGroups_walk (A : Option Addr) (c : Nat) (a : List In.Inc) (B : Option Addr) (d : Nat) (b : List In.Inc) (C : Option Addr) (f : Nat) (s : List In.Inc) (w : World) (h1 : (⟨A, c, a⟩ : NL).In w) (h2 : (⟨B, d, b⟩ : NL).In w) (h3 : (⟨C, f, s⟩ : NL).In w) (ht : Tab w) :
    Calls Tryd.prog 7 #[.slice A a.length c, .slice B b.length d, .slice C s.length f] w fun e w' => e = .returned (.bool true) ∧ Ext w w' := by
  have HA := Lib.hid h1
  have HB := Lib.hid h2
  have HC := Lib.hid h3
  have HT := Lib.hid ht
  clear h1 h2 h3 ht
  obtain ⟨n, hn⟩ : ∃ n, a.length = n := ⟨_, rfl⟩
  rw [hn]
  have Hn := Lib.hid hn
  clear hn
  obtain ⟨m, hm⟩ : ∃ n, b.length = n := ⟨_, rfl⟩
  rw [hm]
  have Hm := Lib.hid hm
  clear hm
  obtain ⟨k, hk⟩ : ∃ n, s.length = n := ⟨_, rfl⟩
  rw [hk]
  have Hk := Lib.hid hk
  clear hk
  obtain ⟨e1, he1⟩ : ∃ v, In.merE a b = v := ⟨_, rfl⟩
  obtain ⟨l1, hl1⟩ : ∃ v, In.merL a b = v := ⟨_, rfl⟩
  obtain ⟨n1, hn1⟩ : ∃ v, l1.length = v := ⟨_, rfl⟩
  have HE1 := Lib.hid he1
  have HL1 := Lib.hid hl1
  have HN1 := Lib.hid hn1
  clear he1 hl1 hn1
  obtain ⟨e2, he2⟩ : ∃ v, In.merE b s = v := ⟨_, rfl⟩
  obtain ⟨l2, hl2⟩ : ∃ v, In.merL b s = v := ⟨_, rfl⟩
  obtain ⟨n2, hn2⟩ : ∃ v, l2.length = v := ⟨_, rfl⟩
  have HE2 := Lib.hid he2
  have HL2 := Lib.hid hl2
  have HN2 := Lib.hid hn2
  clear he2 hl2 hn2
  go_enter Tryd.func7, Tryd.ntmps7
  go_wp2_with fail
  with_reducible refine (merge_to A c a B d b Hn.out Hm.out HL1.out HN1.out HE1.out _ HA.out HB.out).mono ?_
  rintro e w1 ⟨X, xc, rfl, hX, hb1⟩
  have x1 := hb1
  have HX := Lib.hid hX
  clear hX
  have HB1 := Lib.hid (HB.out.ext x1)
  have HC1 := Lib.hid (HC.out.ext x1)
  go_wp2_with fail
  with_reducible refine (merge_to B d b C f s Hm.out Hk.out HL2.out HN2.out HE2.out _ HB1.out HC1.out).mono ?_
  rintro e w2 ⟨Y, yc, rfl, hY, hb2⟩
  have x2 := x1.trans hb2
  have HY := Lib.hid hY
  have HX2 := Lib.hid (HX.out.ext hb2)
  have HA2 := Lib.hid (HA.out.ext x2)
  have HC2 := Lib.hid (HC1.out.ext hb2)
  have HT2 := Lib.hid (HT.out.ext x2)
  clear hY hb1 hb2 HX HB1 HC1
  by_cases z1 : e1 = 0
  · have z1' : (e1 != 0) = false := by rw [z1]; rfl
    by_cases z2 : e2 = 0
    · have z2' : (e2 != 0) = false := by rw [z2]; rfl
      obtain ⟨g1, g2⟩ := In.groups (a := a) (b := b) (c := s) (by rw [HE1.out]; exact z1) (by rw [HE2.out]; exact z2)
      rw [HL1.out, HL2.out] at g1 g2
      obtain ⟨e3, he3⟩ : ∃ v, In.merE a l2 = v := ⟨_, rfl⟩
      obtain ⟨l3, hl3⟩ : ∃ v, In.merL a l2 = v := ⟨_, rfl⟩
      obtain ⟨n3, hn3⟩ : ∃ v, l3.length = v := ⟨_, rfl⟩
      rw [he3] at g1
      rw [hl3] at g2
      have HE3 := Lib.hid he3
      have HL3 := Lib.hid hl3
      have HN3 := Lib.hid hn3
      have HG1 := Lib.hid g1
      have HG2 := Lib.hid g2
      have hn3b : n3 ≤ 300 := by
        rw [← hn3, ← hl3]
        unfold In.merL
        split
        · rename_i hz; exact (In.merE_zero.1 hz).2.2
        · simp
      clear he3 hl3 hn3 g1 g2 z1 z2
      go_wp2_with fail
      with_reducible refine (merge_to X xc l1 C f s HN1.out Hk.out HG2.out HN3.out HG1.out _ HX2.out HC2.out).mono ?_
      rintro e w3 ⟨U, uc, rfl, hU, hb3⟩
      have x3 := x2.trans hb3
      have HU := Lib.hid hU.1
      have HA3 := Lib.hid (HA2.out.ext hb3)
      have HY3 := Lib.hid (HY.out.ext hb3)
      clear hU hb3
      go_wp2_with fail
      with_reducible refine (merge_to A c a Y yc l2 Hn.out HN2.out HL3.out HN3.out HE3.out _ HA3.out HY3.out).mono ?_
      rintro e w4 ⟨V, vc, rfl, hV, hb4⟩
      have x4 := x3.trans hb4
      have HV := Lib.hid hV.1
      have HU4 := Lib.hid (HU.out.ext hb4)
      clear hV hb4
      go_wp2_with fail
      with_reducible refine (same_eq U uc V vc l3 n3 HN3.out _ HU4.out HV.out (by omega)).mono ?_
      rintro e w5 ⟨rfl, hb5⟩
      have x5 := x4.trans hb5
      have HT5 := Lib.hid (HT.out.ext x5)
      go_wp2_with fail
      with_reducible refine (awake_any _ HT5.out).mono ?_
      rintro e w6 ⟨rfl, hb6⟩
      go_wp2
      go_ret
      exact ⟨rfl, x5.trans hb6⟩
    · have z2' : (e2 != 0) = true := by rw [bne_iff_ne]; exact z2
      clear z1 z2
      go_wp2_with fail
      with_reducible refine (awake_any _ HT2.out).mono ?_
      rintro e w3 ⟨rfl, hb3⟩
      go_wp2
      go_ret
      exact ⟨rfl, x2.trans hb3⟩
  · have z1' : (e1 != 0) = true := by rw [bne_iff_ne]; exact z1
    clear z1
    go_wp2_with fail
    with_reducible refine (awake_any _ HT2.out).mono ?_
    rintro e w3 ⟨rfl, hb3⟩
    go_wp2
    go_ret
    exact ⟨rfl, x2.trans hb3⟩

theorem incidentGroups_laid (os : Os) : laidMet Tryd.prog Rows.incidentGroupsRow.laid ((laidW os).forCall (fun _ _ => 0) ⟨#[], #[.slice none 0 0, .slice none 0 0, .slice none 0 0], []⟩).memory :=
  laidMet_of_run' 8 (by kernel_rfl) (by kernel_rfl)
theorem incidentGroups_reads (os : Os) {H : Type} (enc : TypeId × Value → H) : ∃ places, DataW.whole enc Tryd.prog ((laidW os).forCall (fun _ _ => 0) ⟨#[], #[.slice none 0 0, .slice none 0 0, .slice none 0 0], []⟩).memory Tryd.f7.params.toList Rows.incidentGroupsSpec.vars false (#[.slice none 0 0, .slice none 0 0, .slice none 0 0] : Array Value).toList 8 = some ([.nil, .nil, .nil], [], places) :=
  ⟨[], by kernel_rfl⟩
set_option maxRecDepth 100000 in
theorem incidentGroups_lifted (os : Os) (started : os.Started) (H : Type) (enc : TypeId × Value → H) (F : Stop.Interp) :
    ReturnsInHanded {} Tryd.checked os 7 .any ((OpenSpec.ofChange Rows.incidentGroupsSpec).preRow enc Tryd.prog Tryd.f7 Rows.incidentGroupsRow.domain false Rows.incidentGroupsRow.laid) (((OpenSpec.ofChange Rows.incidentGroupsSpec).at F).post enc Tryd.prog Tryd.f7 false true false false) := by
  obtain ⟨places, hx⟩ := incidentGroups_reads os enc
  refine returnsInHanded_of_row (C := Tryd.checked) (s := (OpenSpec.ofChange Rows.incidentGroupsSpec)) Tryd.own started (by kernel_rfl) Tryd.func7
    (witness_row_at (enc := enc) (C := Tryd.checked) false (laidW os) #[.slice none 0 0, .slice none 0 0, .slice none 0 0] rfl (by kernel_rfl) (by kernel_rfl) (by kernel_rfl)
      (OpenSpec.preRow_of_cond 8 hx (by kernel_rfl) (fun k hk => by cases hk) (by kernel_rfl) (incidentGroups_laid os))) ?_
  intro W base args ds gs before hval0 hW _ hcond hsz0 hL hsh _
  have hval : ∀ (j : Nat) t v, Tryd.f7.params[j]? = some t → args[j]? = some v → Value.okWide Tryd.prog W .any base t v := hval0
  have hW' : DataW.Whole enc Tryd.prog Tryd.f7.params.toList Rows.incidentGroupsSpec.vars false W args.toList ds gs before := hW
  have hW2 := hW'
  obtain ⟨p, q, hA0, hV, rfl, hfz, hnd⟩ := hW2
  have hA : DataW.TrodAll enc Tryd.prog W 0 (fun _ => true) true Tryd.f7.params.toList args.toList ds p := hA0
  rw [Tryd.params7] at hA hval
  obtain ⟨v0, vs0, d0, ds0, p0, q0, hargs, rfl, rfl, h0, r0⟩ := trodAll_cons hA
  obtain ⟨v1, vs1, d1, ds1, p1, q1, rfl, rfl, rfl, h1, r1⟩ := trodAll_cons r0
  obtain ⟨v2, vs2, d2, ds2, p2, q2, rfl, rfl, rfl, h2, r2⟩ := trodAll_cons r1
  obtain ⟨rfl, rfl, rfl⟩ := trodAll_nil r2
  obtain rfl : args = #[v0, v1, v2] := by cases args; simp_all
  obtain ⟨rfl, rfl⟩ := trodVars_none hV
  obtain ⟨A, c, a, rfl, hR1⟩ := incs_open (hval 0 24 v0 rfl rfl) h0
  obtain ⟨B, d, b, rfl, hR2⟩ := incs_open (hval 1 24 v1 rfl rfl) h1
  obtain ⟨C, f, s, rfl, hR3⟩ := incs_open (hval 2 24 v2 rfl rfl) h2
  refine (incidentGroups_walk A c a B d b C f s W hR1 hR2 hR3 (tab_of hL)).mono fun e W' ⟨he, hw⟩ => ?_
  subst he
  exact ⟨_, rfl, law_post (s := Rows.incidentGroupsSpec) hW' Tryd.laidOut (by kernel_rfl) rfl (by rfl) rfl Tryd.underlying4 hw⟩

theorem incidentGroups_holds : Rows.IncidentGroupsSaid :=
  OpenClaim.holds_of_cond 7 Tryd.f7 rfl rfl rfl rfl rfl rfl rfl ⟨rfl, rfl, rfl, rfl, rfl⟩ rfl rfl rfl rfl rfl (by kernel_rfl) Tryd.func7 (by kernel_rfl)
    (of_decide_eq_true (by kernel_rfl)) (by unfold Func.isWrapper; first | (rw [if_pos (by decide +kernel)]; kernel_rfl) | (rw [if_neg (by decide +kernel)]; exact ⟨rfl, rfl⟩))
    (fun os started H enc _ F => by rw [OpenClaim.pre_eq_preRow]; exact incidentGroups_lifted os started H enc F)
theorem incidentGroups_card : Rows.IncidentGroupsCardSaid :=
  Claim7.holds_tied_plain_at .later [] _ _ _ _
    incidentGroups_holds (fun _ h => by cases h) (by kernel_rfl) (fun _ h => by cases h) incidentGroups_row_tie rfl ⟨rfl, rfl⟩ (by kernel_rfl) rfl
    (fun f fn hf hfn => by
      obtain rfl : f = 7 := Option.some.inj ((show Tryd.prog.funcNamed Rows.incidentGroupsRow.func = some 7 by kernel_rfl).symm.trans hf) |>.symm
      obtain rfl : fn = Tryd.f7 := (Option.some.inj (Tryd.func7.symm.trans hfn)).symm
      exact ⟨by kernel_rfl, fun j t ht => by
        rw [Tryd.params7] at ht
        have hm : t ∈ [24, 24, 24] := by simpa using Array.mem_of_getElem? ht
        have hall : ([24, 24, 24].all fun u => !Tryd.prog.wantsStandIn u) = true := by kernel_rfl
        exact (show Tryd.prog.wantsStandIn t = false by simpa using List.all_eq_true.1 hall t hm)⟩)
    (by kernel_rfl)
#print axioms incidentGroups_card
end Go.Proofs.YtcpapnnghclbmaaDoor
