/- IncidentSums: for every input the law returns true. Conditions: the table of powers lies as the row says. -/
import Derived.Test.YtcpapnnghclbmaaDoorInO
import Derived.Test.YtcpapnnghclbmaaDoorInG
namespace Go.Proofs.YtcpapnnghclbmaaDoor
open Go.ChangeShapes Go.WideShapes Go.ChangeAt Go.RowKit

theorem rlost_to (A : Option Addr) (c : Nat) (ps : List In.Inc) (most : Int) {n : Nat} {er : Int} (hn : ps.length = n) {t : Int} (ht : In.lostV ps most = t) (he : In.chk ps = er) (w : World) (h : (⟨A, c, ps⟩ : NL).In w) :
    Calls Tryd.prog 17 #[.slice A n c, .int .i64 most] w fun e w' => e = .returned (.tuple #[.int .i64 t, .int .i64 er]) ∧ Ext w w' := by
  subst hn ht he
  exact rlost_any A c ps most w h
theorem rworst_to (A : Option Addr) (c : Nat) (ps : List In.Inc) {n : Nat} {er : Int} (hn : ps.length = n) {t : Int} (ht : In.worstV ps = t) (he : In.chk ps = er) (w : World) (h : (⟨A, c, ps⟩ : NL).In w) :
    Calls Tryd.prog 19 #[.slice A n c] w fun e w' => e = .returned (.tuple #[.int .i64 t, .int .i64 er]) ∧ Ext w w' := by
  subst hn ht he
  exact rworst_any A c ps w h
theorem rhold_to (A : Option Addr) (c : Nat) (ps : List In.Inc) {n : Nat} {er : Int} (hn : ps.length = n) {t : Bool} (ht : In.holdV ps = t) (he : In.chk ps = er) (w : World) (h : (⟨A, c, ps⟩ : NL).In w) :
    Calls Tryd.prog 21 #[.slice A n c] w fun e w' => e = .returned (.tuple #[.bool t, .int .i64 er]) ∧ Ext w w' := by
  subst hn ht he
  exact rhold_any A c ps w h
theorem rcounts_to (A : Option Addr) (c : Nat) (ps : List In.Inc) {n k : Nat} {xs : List Int} {er : Int} (hn : ps.length = n) (hx : In.countV ps = xs) (hk : xs.length = k) (he : In.chk ps = er) (w : World) (h : (⟨A, c, ps⟩ : NL).In w) :
    Calls Tryd.prog 23 #[.slice A n c] w fun e w' => (∃ (X : Option Addr) (xc : Nat), e = .returned (.tuple #[.slice X k xc, .int .i64 er]) ∧ SlI w' X xs) ∧ Ext w w' := by
  subst hn hx hk he
  exact rcounts_any A c ps w h
set_option maxRecDepth 100000 in
set_option maxHeartbeats 6400000 in
theorem incidentSums_walk (A : Option Addr) (c : Nat) (ps : List In.Inc) (most : Int) (w : World) (h : (⟨A, c, ps⟩ : NL).In w) (ht : Tab w) :
    Calls Tryd.prog 4 #[.slice A ps.length c, .int .i64 most] w fun e w' => e = .returned (.bool true) ∧ Ext w w' := by
  have H0 := Lib.hid h
  have HT := Lib.hid ht
  have hl : ps.length ≤ maxLen := Nat.le_trans h.2.1 h.2.2.1
  clear h ht
  obtain ⟨n, hn⟩ : ∃ n, ps.length = n := ⟨_, rfl⟩
  rw [hn] at hl ⊢
  have HN := Lib.hid hn
  unfold maxLen at hl
  obtain ⟨er, her⟩ : ∃ v, In.chk ps = v := ⟨_, rfl⟩
  have Her := Lib.hid her
  obtain ⟨t1, ht1⟩ : ∃ v, In.lostV ps most = v := ⟨_, rfl⟩
  have Ht1 := Lib.hid ht1
  obtain ⟨t2, ht2⟩ : ∃ v, In.worstV ps = v := ⟨_, rfl⟩
  have Ht2 := Lib.hid ht2
  obtain ⟨t3, ht3⟩ : ∃ v, In.holdV ps = v := ⟨_, rfl⟩
  have Ht3 := Lib.hid ht3
  obtain ⟨xs, hxs⟩ : ∃ v, In.countV ps = v := ⟨_, rfl⟩
  have Hxs := Lib.hid hxs
  have hk6 : (In.countV ps).length ≤ 6 := by unfold In.countV In.countL; split <;> simp
  rw [hxs] at hk6
  obtain ⟨k, hk⟩ : ∃ k, xs.length = k := ⟨_, rfl⟩
  rw [hk] at hk6
  have HK := Lib.hid hk
  clear hn her ht1 ht2 ht3 hxs hk
  have x0 : Ext w w := Ext.refl _
  go_enter Tryd.func4, Tryd.ntmps4
  go_wp2_with fail
  with_reducible refine (lost_to A c ps most HN.out Ht1.out Her.out _ H0.out).mono ?_
  rintro e w1 ⟨rfl, hb1⟩
  have x1 := x0.trans hb1
  have H1 := Lib.hid (H0.out.ext hb1)
  clear hb1 H0
  go_wp2_with fail
  with_reducible refine (rlost_to A c ps most HN.out Ht1.out Her.out _ H1.out).mono ?_
  rintro e w2 ⟨rfl, hb2⟩
  have x2 := x1.trans hb2
  have H2 := Lib.hid (H1.out.ext hb2)
  clear hb2 H1
  go_wp2_with fail
  with_reducible refine (worst_to A c ps HN.out Ht2.out Her.out _ H2.out).mono ?_
  rintro e w3 ⟨rfl, hb3⟩
  have x3 := x2.trans hb3
  have H3 := Lib.hid (H2.out.ext hb3)
  clear hb3 H2
  go_wp2_with fail
  with_reducible refine (rworst_to A c ps HN.out Ht2.out Her.out _ H3.out).mono ?_
  rintro e w4 ⟨rfl, hb4⟩
  have x4 := x3.trans hb4
  have H4 := Lib.hid (H3.out.ext hb4)
  clear hb4 H3
  go_wp2_with fail
  with_reducible refine (hold_to A c ps HN.out Ht3.out Her.out _ H4.out).mono ?_
  rintro e w5 ⟨rfl, hb5⟩
  have x5 := x4.trans hb5
  have H5 := Lib.hid (H4.out.ext hb5)
  clear hb5 H4
  go_wp2_with fail
  with_reducible refine (rhold_to A c ps HN.out Ht3.out Her.out _ H5.out).mono ?_
  rintro e w6 ⟨rfl, hb6⟩
  have x6 := x5.trans hb6
  have H6 := Lib.hid (H5.out.ext hb6)
  clear hb6 H5
  go_wp2_with fail
  with_reducible refine (counts_to A c ps HN.out Hxs.out HK.out Her.out _ H6.out).mono ?_
  rintro e w7 ⟨⟨X, xc, rfl, hX⟩, hb7⟩
  have x7 := x6.trans hb7
  have H7 := Lib.hid (H6.out.ext hb7)
  have HX := Lib.hid hX
  clear hX
  clear hb7 H6
  go_wp2_with fail
  with_reducible refine (rcounts_to A c ps HN.out Hxs.out HK.out Her.out _ H7.out).mono ?_
  rintro e w8 ⟨⟨Y, yc, rfl, hY⟩, hb8⟩
  have x8 := x7.trans hb8
  have H8 := Lib.hid (H7.out.ext hb8)
  have HX2 := Lib.hid (HX.out.ext hb8)
  have HY := Lib.hid hY
  clear hY
  clear hb8 H7
  go_wp2_with fail
  with_reducible refine (sameInts_eq X xc Y yc xs k HK.out _ HX2.out HY.out (by omega)).mono ?_
  rintro e w9 ⟨rfl, hb9⟩
  have x9 := x8.trans hb9
  have HT9 := Lib.hid (HT.out.ext x9)
  go_wp2_with fail
  with_reducible refine (awake_any _ HT9.out).mono ?_
  rintro e w10 ⟨rfl, hb10⟩
  go_wp2
  go_ret
  exact ⟨rfl, x9.trans hb10⟩

theorem incidentSums_laid (os : Os) : laidMet Tryd.prog Rows.incidentSumsRow.laid ((laidW os).forCall (fun _ _ => 0) ⟨#[], #[.slice none 0 0, .int .i64 0], []⟩).memory :=
  laidMet_of_run' 8 (by kernel_rfl) (by kernel_rfl)
theorem incidentSums_reads (os : Os) {H : Type} (enc : TypeId × Value → H) : ∃ places, DataW.whole enc Tryd.prog ((laidW os).forCall (fun _ _ => 0) ⟨#[], #[.slice none 0 0, .int .i64 0], []⟩).memory Tryd.f4.params.toList Rows.incidentSumsSpec.vars false (#[.slice none 0 0, .int .i64 0] : Array Value).toList 8 = some ([.nil, .lit (.int .i64 0)], [], places) :=
  ⟨[], by kernel_rfl⟩
set_option maxRecDepth 100000 in
theorem incidentSums_lifted (os : Os) (started : os.Started) (H : Type) (enc : TypeId × Value → H) (F : Stop.Interp) :
    ReturnsInHanded {} Tryd.checked os 4 .any ((OpenSpec.ofChange Rows.incidentSumsSpec).preRow enc Tryd.prog Tryd.f4 Rows.incidentSumsRow.domain false Rows.incidentSumsRow.laid) (((OpenSpec.ofChange Rows.incidentSumsSpec).at F).post enc Tryd.prog Tryd.f4 false true false false) := by
  obtain ⟨places, hx⟩ := incidentSums_reads os enc
  refine returnsInHanded_of_row (C := Tryd.checked) (s := (OpenSpec.ofChange Rows.incidentSumsSpec)) Tryd.own started (by kernel_rfl) Tryd.func4
    (witness_row_at (enc := enc) (C := Tryd.checked) false (laidW os) #[.slice none 0 0, .int .i64 0] rfl (by kernel_rfl) (by kernel_rfl) (by kernel_rfl)
      (OpenSpec.preRow_of_cond 8 hx (by kernel_rfl) (fun k hk => by cases hk) (by kernel_rfl) (incidentSums_laid os))) ?_
  intro W base args ds gs before hval0 hW _ hcond hsz0 hL hsh _
  have hval : ∀ (j : Nat) t v, Tryd.f4.params[j]? = some t → args[j]? = some v → Value.okWide Tryd.prog W .any base t v := hval0
  have hW' : DataW.Whole enc Tryd.prog Tryd.f4.params.toList Rows.incidentSumsSpec.vars false W args.toList ds gs before := hW
  have hW2 := hW'
  obtain ⟨p, q, hA0, hV, rfl, hfz, hnd⟩ := hW2
  have hA : DataW.TrodAll enc Tryd.prog W 0 (fun _ => true) true Tryd.f4.params.toList args.toList ds p := hA0
  rw [Tryd.params4] at hA hval
  obtain ⟨v0, vs0, d0, ds0, p0, q0, hargs, rfl, rfl, h0, r0⟩ := trodAll_cons hA
  obtain ⟨v1, vs1, d1, ds1, p1, q1, rfl, rfl, rfl, h1, r1⟩ := trodAll_cons r0
  obtain ⟨rfl, rfl, rfl⟩ := trodAll_nil r1
  obtain rfl : args = #[v0, v1] := by cases args; simp_all
  obtain ⟨rfl, rfl⟩ := trodVars_none hV
  obtain ⟨A, c, ps, rfl, hR⟩ := incs_open (hval 0 24 v0 rfl rfl) h0
  obtain ⟨most, rfl, rfl, rfl, -⟩ := open_int Tryd.underlying3 (hval 1 3 v1 rfl rfl) h1
  refine (incidentSums_walk A c ps most W hR (tab_of hL)).mono fun e W' ⟨he, hw⟩ => ?_
  subst he
  exact ⟨_, rfl, law_post (s := Rows.incidentSumsSpec) hW' Tryd.laidOut (by kernel_rfl) rfl (by rfl) rfl Tryd.underlying4 hw⟩

theorem incidentSums_holds : Rows.IncidentSumsSaid :=
  OpenClaim.holds_of_cond 4 Tryd.f4 rfl rfl rfl rfl rfl rfl rfl ⟨rfl, rfl, rfl, rfl, rfl⟩ rfl rfl rfl rfl rfl (by kernel_rfl) Tryd.func4 (by kernel_rfl)
    (of_decide_eq_true (by kernel_rfl)) (by unfold Func.isWrapper; first | (rw [if_pos (by decide +kernel)]; kernel_rfl) | (rw [if_neg (by decide +kernel)]; exact ⟨rfl, rfl⟩))
    (fun os started H enc _ F => by rw [OpenClaim.pre_eq_preRow]; exact incidentSums_lifted os started H enc F)
theorem incidentSums_card : Rows.IncidentSumsCardSaid :=
  Claim7.holds_tied_plain_at .later [] _ _ _ _
    incidentSums_holds (fun _ h => by cases h) (by kernel_rfl) (fun _ h => by cases h) incidentSums_row_tie rfl ⟨rfl, rfl⟩ (by kernel_rfl) rfl
    (fun f fn hf hfn => by
      obtain rfl : f = 4 := Option.some.inj ((show Tryd.prog.funcNamed Rows.incidentSumsRow.func = some 4 by kernel_rfl).symm.trans hf) |>.symm
      obtain rfl : fn = Tryd.f4 := (Option.some.inj (Tryd.func4.symm.trans hfn)).symm
      exact ⟨by kernel_rfl, fun j t ht => by
        rw [Tryd.params4] at ht
        have hm : t ∈ [24, 3] := by simpa using Array.mem_of_getElem? ht
        have hall : ([24, 3].all fun u => !Tryd.prog.wantsStandIn u) = true := by kernel_rfl
        exact (show Tryd.prog.wantsStandIn t = false by simpa using List.all_eq_true.1 hall t hm)⟩)
    (by kernel_rfl)
#print axioms incidentSums_card
end Go.Proofs.YtcpapnnghclbmaaDoor
