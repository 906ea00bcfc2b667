/- ItemDigests: for all items the law returns true. Conditions: the library's variable and the package's names lie as the row says. -/
import Derived.Test.YtdaccamiipknmaaGreatDoorIvU
import Derived.Test.YtdaccamiipknmaaGreatDoorIuVersions
namespace Go.Proofs.YtdaccamiipknmaaGreatDoor
open Go.ChangeShapes Go.WideShapes Go.ChangeAt Go.RowKit Go.Shelf

set_option maxRecDepth 100000 in
set_option maxHeartbeats 6400000 in
theorem itemDigests_bad (it : It.Item) (L : It.Loc) (w : World) (h : It.In w it L) (hg : Gm w) (hf : Fld w) (hv : It.vld it ≠ 0) :
    Calls Tryz.prog 5 #[It.agg it L] w fun e w' => e = .returned (.bool true) ∧ Ext w w' := by
  obtain ⟨CA, hca, hna, -, -⟩ := It.packed it L
  have HD := Lib.hid (digest_any it L)
  have HV := Lib.hid (valid_any it L)
  rw [hca] at HD HV ⊢
  have IA := Lib.hid (infoItem hna)
  have H := Lib.hid h
  have HG : Hid (∀ w', Ext w w' → Gm w') := Lib.hid (fun w' he => hg.ext he)
  have HF : Hid (∀ w', Ext w w' → Fld w') := Lib.hid (fun w' he => hf.ext he)
  obtain ⟨er, her⟩ : ∃ er, It.vld it = er := ⟨_, rfl⟩
  rw [her] at HD HV hv
  rw [if_neg hv] at HD
  have t0 : (er != 0) = true := by rw [bne_iff_ne]; exact hv
  have t1 : (er != er) = false := by simp
  clear hca hna h hg hf her hv
  go_enter Tryz.func5, Tryz.ntmps5
  go_wp2_with (refine wpList_load_row rfl _ _ rfl w.heap.size rfl _ CA _ _ (heap_alloc_new _ _) Tryz.underlying25 rfl IA.out ?_)
  have X0 := (Ext.refl w).alloc (.cells CA 25)
  with_reducible refine (HD.out _ (H.out.ext X0) (fun w' he => HG.out w' (X0.trans he))).mono ?_
  rintro e w1 ⟨rfl, hb1⟩
  have B1 := Lib.hid (hb1.blockAt (heap_alloc_new w (.cells CA 25)))
  have X1 := Lib.hid (X0.trans hb1)
  clear hb1 X0 HD
  go_wp2_with (refine wpList_load_row rfl _ _ rfl w.heap.size rfl _ CA _ _ B1.out Tryz.underlying25 rfl IA.out ?_)
  with_reducible refine (HV.out _ (H.out.ext X1.out) (HG.out _ X1.out)).mono ?_
  rintro e w2 ⟨rfl, hb2⟩
  have B2 := Lib.hid (hb2.blockAt B1.out)
  have X2 := Lib.hid (X1.out.trans hb2)
  clear hb2 HV B1 X1
  go_wp2_with fail
  with_reducible refine (awake_any _ (fun w' he => ⟨HG.out _ (X2.out.trans he), HF.out _ (X2.out.trans he)⟩)).mono ?_
  rintro e w3 ⟨rfl, hb3⟩
  have X3 := Lib.hid (X2.out.trans hb3)
  clear hb3
  go_wp2
  go_ret
  exact ⟨rfl, X3.out⟩
set_option maxRecDepth 100000 in
set_option maxHeartbeats 12800000 in
theorem itemDigests_ok (it : It.Item) (L : It.Loc) (w : World) (h : It.In w it L) (hg : Gm w) (hf : Fld w) (hv : It.vld it = 0) :
    Calls Tryz.prog 5 #[It.agg it L] w fun e w' => e = .returned (.bool true) ∧ Ext w w' := by
  obtain ⟨CA, hca, hna, -, -⟩ := It.packed it L
  have HD := Lib.hid (digest_any it L)
  have HV := Lib.hid (valid_any it L)
  rw [hca] at HD HV ⊢
  have IA := Lib.hid (infoItem hna)
  have H := Lib.hid h
  have HG : Hid (∀ w', Ext w w' → Gm w') := Lib.hid (fun w' he => hg.ext he)
  have HF : Hid (∀ w', Ext w w' → Fld w') := Lib.hid (fun w' he => hf.ext he)
  have HE := Lib.hid (encode_any it L)
  rw [hca] at HE
  obtain ⟨hft, hlt⟩ := fits_tree h.ok hv
  have HT : Hid (∀ (M : Option Addr × Nat) (w : World), KidsAt 1000 0 2 w M (flds it) → Calls Tryz.prog 23 #[nda (tree it) M] w fun e w' => (∃ A c, e = .returned (.tuple #[.slice A (encT 3 (tree it)).length c, .int .i64 0]) ∧ SlU w' A (encT 3 (tree it))) ∧ Ext w w') :=
    Lib.hid (fun M w hk => cenc_ok 1000 2 (by omega) (tree it) M w hk hft hlt)
  have hde : decErr (tree it) = 0 := by unfold decErr; rw [if_pos (isTr_tree _)]; show It.vld (itemOf (flds it)) = 0; rw [itemOf_flds]; exact hv
  have hit : itemOf (tree it).kids = it := itemOf_flds _
  have HDE : Hid (∀ (M : Option Addr × Nat) (w : World), KidsAt 1000 0 2 w M (flds it) → Gm w → Calls Tryz.prog 17 #[nda (tree it) M] w fun e w' => DecPost it 0 e w' ∧ Ext w w') :=
    Lib.hid (fun M w hk hgw => by
      have := decode_any 1000 0 (tree it) M w hk (szOk_tree h.ok) (n64_tree h.ok) (few_tree hv) hgw
      rwa [hde, hit] at this)
  have HD2 := Lib.hid (digest_any it)
  have HOK := Lib.hid h.ok
  rw [hv] at HE HV HD HD2
  rw [if_pos rfl] at HD HD2
  obtain ⟨D, hD⟩ : ∃ D, It.dg it = D := ⟨_, rfl⟩
  have hD2 : dgOf (encT 3 (tree it)) = D := hD
  rw [hD] at HD HD2
  obtain ⟨E, hEE⟩ : ∃ E, encT 3 (tree it) = E := ⟨_, rfl⟩
  rw [hEE] at HT hlt hD2
  clear hca hna h hv hft hEE hg hf hde hit hD
  go_enter Tryz.func5, Tryz.ntmps5
  go_wp2_with (refine wpList_load_row rfl _ _ rfl w.heap.size rfl _ CA _ _ (heap_alloc_new _ _) Tryz.underlying25 rfl IA.out ?_)
  have X0 := (Ext.refl w).alloc (.cells CA 25)
  with_reducible refine (HD.out _ (H.out.ext X0) (fun w' he => HG.out w' (X0.trans he))).mono ?_
  rintro e w1 ⟨rfl, hb1⟩
  have B1 := Lib.hid (hb1.blockAt (heap_alloc_new w (.cells CA 25)))
  have X1 := Lib.hid (X0.trans hb1)
  clear hb1 X0 HD
  go_wp2_with (refine wpList_load_row rfl _ _ rfl w.heap.size rfl _ CA _ _ B1.out Tryz.underlying25 rfl IA.out ?_)
  with_reducible refine (HV.out _ (H.out.ext X1.out) (HG.out _ X1.out)).mono ?_
  rintro e w2 ⟨rfl, hb2⟩
  have B2 := Lib.hid (hb2.blockAt B1.out)
  have X2 := Lib.hid (X1.out.trans hb2)
  clear hb2 HV B1 X1
  go_wp2_with (refine wpList_load_row rfl _ _ rfl w.heap.size rfl _ CA _ _ B2.out Tryz.underlying25 rfl IA.out ?_)
  with_reducible refine (HE.out _ (H.out.ext X2.out) (fun w' he => HG.out w' (X2.out.trans he))).mono ?_
  rintro e w3 ⟨hE, hb3⟩
  obtain ⟨M, rfl, hK⟩ := hE.1 rfl
  obtain ⟨C4, hc4, hn4, ho4⟩ := nd_packed (tree it) M
  rw [hc4]
  obtain ⟨W4, hW4⟩ : ∃ W, ((w3.alloc (.cells #[.int .i64 0, .int .i64 0, .int .i64 0, .string ⟨#[]⟩, .slice none 0 0] 34)).setRow w3.heap.size C4) = W := ⟨_, rfl⟩
  have B4 : Hid (W4.heap[w3.heap.size]? = some (.cells C4 34 (0, 0))) := Lib.hid (by rw [← hW4]; exact setRow_at (heap_alloc_new _ _))
  have E4 : Ext w3 W4 := by rw [← hW4]; exact ((Ext.refl _).alloc _).setRow (Nat.le_refl _) _
  have X4 := Lib.hid ((X2.out.trans hb3).trans E4)
  have K4 := Lib.hid ((hK.lower (Nat.zero_le _)).ext E4)
  have F4 := Lib.hid (infoNode hn4)
  have S4 := Lib.hid hn4
  have O4 := Lib.hid ho4
  have HW4 := Lib.hid hW4
  have HC := Lib.hid (HT.out M W4 K4.out)
  have HDM := Lib.hid (HDE.out M)
  rw [hc4] at HC HDM
  clear hE hb3 hK hc4 hn4 ho4 hW4 E4 HE HT HDE B2
  go_wp2_with (first
    | (refine wpList_store_row rfl _ _ _ rfl w3.heap.size C4 rfl rfl _ #[.int .i64 0, .int .i64 0, .int .i64 0, .string ⟨#[]⟩, .slice none 0 0] (heap_alloc_new _ _) F4.out S4.out.symm O4.out ?_; rw [HW4.out])
    | refine wpList_load_row rfl _ _ rfl w3.heap.size rfl _ C4 _ _ B4.out Tryz.underlying34 rfl F4.out ?_)
  clear HW4
  with_reducible refine HC.out.mono ?_
  rintro e w5 ⟨⟨A, c, rfl, hs⟩, hb5⟩
  have HS := Lib.hid hs
  have B5 := Lib.hid (hb5.blockAt B4.out)
  have K5 := Lib.hid (K4.out.ext hb5)
  have X5 := Lib.hid (X4.out.trans hb5)
  have HZ : Hid (∀ w, SlU w A E → Calls Tryz.prog 24 #[.slice A E.length c] w fun e w' => e = .returned (.int .u64 D) ∧ w = w') := Lib.hid (fun w h => by rw [← hD2]; exact of_dg A c E w h (Nat.le_trans hlt (by decide)))
  clear hs hb5 HC B4 K4 hD2 hlt
  obtain ⟨z, hz⟩ : ∃ z, E.length = z := ⟨_, rfl⟩
  rw [hz] at HZ ⊢
  clear hz
  go_wp2_with (refine wpList_load_row rfl _ _ rfl w3.heap.size rfl _ C4 _ _ B5.out Tryz.underlying34 rfl F4.out ?_)
  with_reducible refine (HDM.out _ K5.out (HG.out _ X5.out)).mono ?_
  rintro e w6 ⟨hDD, hb6⟩
  obtain ⟨L6, rfl, hI6⟩ := hDD.1 rfl
  obtain ⟨C6, hc6, hn6, ho6, -⟩ := It.packed it L6
  have HD6 := Lib.hid (HD2.out L6)
  rw [hc6] at HD6 ⊢
  obtain ⟨W6, hW6⟩ : ∃ W, ((w6.alloc (.cells #[.int .i64 0, .int .i64 0, .int .i64 0, .string ⟨#[]⟩, .slice none 0 0, .slice none 0 0, .int .i64 0, .int .i64 0, .slice none 0 0, .int .i64 0, .string ⟨#[]⟩, .int .i64 0, .int .i64 0, .int .i64 0, .int .i64 0, .slice none 0 0, .int .i64 0] 25)).setRow w6.heap.size C6) = W := ⟨_, rfl⟩
  have B6 : Hid (W6.heap[w6.heap.size]? = some (.cells C6 25 (0, 0))) := Lib.hid (by rw [← hW6]; exact setRow_at (heap_alloc_new _ _))
  have E6 : Ext w6 W6 := by rw [← hW6]; exact ((Ext.refl _).alloc _).setRow (Nat.le_refl _) _
  have X6 := Lib.hid ((X5.out.trans hb6).trans E6)
  have I6 := Lib.hid ((hI6.in_ HOK.out).ext E6)
  have S6 := Lib.hid (HS.out.ext (hb6.trans E6))
  have F6 := Lib.hid (infoItem hn6)
  have N6 := Lib.hid hn6
  have O6 := Lib.hid ho6
  have HW6 := Lib.hid hW6
  clear hDD hb6 hI6 hc6 hn6 ho6 hW6 E6 HD2 HDM K5 B5 HS
  go_wp2_with (first
    | (refine wpList_store_row rfl _ _ _ rfl w6.heap.size C6 rfl rfl _ #[.int .i64 0, .int .i64 0, .int .i64 0, .string ⟨#[]⟩, .slice none 0 0, .slice none 0 0, .int .i64 0, .int .i64 0, .slice none 0 0, .int .i64 0, .string ⟨#[]⟩, .int .i64 0, .int .i64 0, .int .i64 0, .int .i64 0, .slice none 0 0, .int .i64 0] (heap_alloc_new _ _) F6.out N6.out.symm O6.out ?_; rw [HW6.out])
    | refine wpList_load_row rfl _ _ rfl w6.heap.size rfl _ C6 _ _ B6.out Tryz.underlying25 rfl F6.out ?_)
  clear HW6
  with_reducible refine (HD6.out _ I6.out (fun w' he => HG.out w' (X6.out.trans he))).mono ?_
  rintro e w7 ⟨rfl, hb7⟩
  have S7 := Lib.hid (S6.out.ext hb7)
  have X7 := Lib.hid (X6.out.trans hb7)
  clear hb7 S6 HD6
  go_wp2_with fail
  with_reducible refine (HZ.out _ S7.out).mono ?_
  rintro e w8 ⟨rfl, rfl⟩
  go_wp2_with fail
  with_reducible refine (awake_any _ (fun w' he => ⟨HG.out _ (X7.out.trans he), HF.out _ (X7.out.trans he)⟩)).mono ?_
  rintro e w9 ⟨rfl, hb9⟩
  have X9 := Lib.hid (X7.out.trans hb9)
  clear hb9
  go_wp2
  go_ret
  exact ⟨rfl, X9.out⟩
theorem itemDigests_walk (it : It.Item) (L : It.Loc) (w : World) (h : It.In w it L) (hg : Gm w) (hf : Fld w) :
    Calls Tryz.prog 5 #[It.agg it L] w fun e w' => e = .returned (.bool true) ∧ Ext w w' := by
  by_cases hv : It.vld it = 0
  · exact itemDigests_ok it L w h hg hf hv
  · exact itemDigests_bad it L w h hg hf hv
theorem itemDigests_laid (os : Os) : laidMet Tryz.prog Rows.itemDigestsRow.laid ((laidW os).forCall (fun _ _ => 0) ⟨#[], #[.agg #[.int .i64 0, .int .i64 0, .int .i64 0, .string ⟨#[]⟩, .slice none 0 0, .slice none 0 0, .int .i64 0, .int .i64 0, .slice none 0 0, .int .i64 0, .string ⟨#[]⟩, .int .i64 0, .int .i64 0, .int .i64 0, .int .i64 0, .slice none 0 0, .int .i64 0]], []⟩).memory :=
  laidMet_of_run' 8 (by kernel_rfl) (by kernel_rfl)
theorem itemDigests_reads (os : Os) {H : Type} (enc : TypeId × Value → H) : ∃ places, DataW.whole enc Tryz.prog ((laidW os).forCall (fun _ _ => 0) ⟨#[], #[.agg #[.int .i64 0, .int .i64 0, .int .i64 0, .string ⟨#[]⟩, .slice none 0 0, .slice none 0 0, .int .i64 0, .int .i64 0, .slice none 0 0, .int .i64 0, .string ⟨#[]⟩, .int .i64 0, .int .i64 0, .int .i64 0, .int .i64 0, .slice none 0 0, .int .i64 0]], []⟩).memory Tryz.f5.params.toList Rows.itemDigestsSpec.vars false (#[.agg #[.int .i64 0, .int .i64 0, .int .i64 0, .string ⟨#[]⟩, .slice none 0 0, .slice none 0 0, .int .i64 0, .int .i64 0, .slice none 0 0, .int .i64 0, .string ⟨#[]⟩, .int .i64 0, .int .i64 0, .int .i64 0, .int .i64 0, .slice none 0 0, .int .i64 0]] : Array Value).toList 8 = some ([.agg [.lit (.int .i64 0), .lit (.int .i64 0), .lit (.int .i64 0), .lit (.string []), .nil, .nil, .lit (.int .i64 0), .lit (.int .i64 0), .nil, .lit (.int .i64 0), .lit (.string []), .lit (.int .i64 0), .lit (.int .i64 0), .lit (.int .i64 0), .lit (.int .i64 0), .nil, .lit (.int .i64 0)]], [], places) :=
  ⟨[], by kernel_rfl⟩
set_option maxRecDepth 100000 in
theorem itemDigests_lifted (os : Os) (started : os.Started) (H : Type) (enc : TypeId × Value → H) (F : Stop.Interp) :
    ReturnsInHanded {} Tryz.checked os 5 .any ((OpenSpec.ofChange Rows.itemDigestsSpec).preRow enc Tryz.prog Tryz.f5 Rows.itemDigestsRow.domain false Rows.itemDigestsRow.laid) (((OpenSpec.ofChange Rows.itemDigestsSpec).at F).post enc Tryz.prog Tryz.f5 false true false false) := by
  obtain ⟨places, hx⟩ := itemDigests_reads os enc
  refine returnsInHanded_of_row (C := Tryz.checked) (s := (OpenSpec.ofChange Rows.itemDigestsSpec)) Tryz.own started (by kernel_rfl) Tryz.func5
    (witness_row_at (enc := enc) (C := Tryz.checked) false (laidW os) #[.agg #[.int .i64 0, .int .i64 0, .int .i64 0, .string ⟨#[]⟩, .slice none 0 0, .slice none 0 0, .int .i64 0, .int .i64 0, .slice none 0 0, .int .i64 0, .string ⟨#[]⟩, .int .i64 0, .int .i64 0, .int .i64 0, .int .i64 0, .slice none 0 0, .int .i64 0]] rfl (by kernel_rfl) (by kernel_rfl) (by kernel_rfl)
      (OpenSpec.preRow_of_cond 8 hx (by kernel_rfl) (fun k hk => by cases hk) (by kernel_rfl) (itemDigests_laid os))) ?_
  intro W base args ds gs before hval0 hW _ hcond hsz0 hL hsh _
  have hval : ∀ (j : Nat) t v, Tryz.f5.params[j]? = some t → args[j]? = some v → Value.okWide Tryz.prog W .any base t v := hval0
  have hW' : DataW.Whole enc Tryz.prog Tryz.f5.params.toList Rows.itemDigestsSpec.vars false W args.toList ds gs before := hW
  have hW2 := hW'
  obtain ⟨p, q, hA0, hV, rfl, hfz, hnd⟩ := hW2
  have hA : DataW.TrodAll enc Tryz.prog W 0 (fun _ => true) true Tryz.f5.params.toList args.toList ds p := hA0
  rw [Tryz.params5] at hA hval
  obtain ⟨v0, vs0, d0, ds0, p0, q0, hargs, rfl, rfl, h0, r0⟩ := trodAll_cons hA
  obtain ⟨rfl, rfl, rfl⟩ := trodAll_nil r0
  obtain rfl : args = #[v0] := by cases args; simp_all
  obtain ⟨rfl, rfl⟩ := trodVars_none hV
  obtain ⟨mx, hmx⟩ := Go.Proofs.cell_of_shapedOpen_int (g := 1) (zero := #[.int .i64 0]) (t := 3) hsh (by decide +kernel) (by kernel_rfl) (by decide) (by kernel_rfl) (by kernel_rfl) Tryz.underlying3
  have hsz : (DataW.weightsEach Tryz.prog (Tryz.f5.params.toList ++ Rows.itemDigestsSpec.plain.varTypes Tryz.prog) _).all (· ≤ reachBytes) = true := hsz0
  rw [Tryz.params5] at hsz
  obtain ⟨it, L, rfl, hR1⟩ := item_open (hval 0 25 v0 rfl rfl) h0 (light_arg hsz (j := 0) rfl rfl)
  refine (itemDigests_walk it L W hR1 ⟨mx, hmx⟩ (fld_of hL (by kernel_rfl) (by kernel_rfl))).mono fun e W' ⟨he, hw⟩ => ?_
  subst he
  exact ⟨_, rfl, law_post (s := Rows.itemDigestsSpec) hW' Tryz.laidOut (by kernel_rfl) rfl (by rfl) rfl Tryz.underlying4 hw⟩

theorem itemDigests_holds : Rows.ItemDigestsSaid :=
  OpenClaim.holds_of_cond 5 Tryz.f5 rfl rfl rfl rfl rfl rfl rfl ⟨rfl, rfl, rfl, rfl, rfl⟩ rfl rfl rfl rfl rfl (by kernel_rfl) Tryz.func5 (by kernel_rfl)
    (of_decide_eq_true (by kernel_rfl)) (by unfold Func.isWrapper; first | (rw [if_pos (by decide +kernel)]; kernel_rfl) | (rw [if_neg (by decide +kernel)]; exact ⟨rfl, rfl⟩))
    (fun os started H enc _ F => by rw [OpenClaim.pre_eq_preRow]; exact itemDigests_lifted os started H enc F)
theorem itemDigests_card : Rows.ItemDigestsCardSaid :=
  Claim7.holds_tied_plain_at .later [] _ _ _ _
    itemDigests_holds (fun _ h => by cases h) (by kernel_rfl) (fun _ h => by cases h) itemDigests_row_tie rfl ⟨rfl, rfl⟩ (by kernel_rfl) rfl
    (fun f fn hf hfn => by
      obtain rfl : f = 5 := Option.some.inj ((show Tryz.prog.funcNamed Rows.itemDigestsRow.func = some 5 by kernel_rfl).symm.trans hf) |>.symm
      obtain rfl : fn = Tryz.f5 := (Option.some.inj (Tryz.func5.symm.trans hfn)).symm
      exact ⟨by kernel_rfl, fun j t ht => by
        rw [Tryz.params5] at ht
        have hm : t ∈ [25] := by simpa using Array.mem_of_getElem? ht
        have hall : ([25].all fun u => !Tryz.prog.wantsStandIn u) = true := by kernel_rfl
        exact (show Tryz.prog.wantsStandIn t = false by simpa using List.all_eq_true.1 hall t hm)⟩)
    (by kernel_rfl)
#print axioms itemDigests_card

end Go.Proofs.YtdaccamiipknmaaGreatDoor
