/- BundleRoundTrip: for all keys, sessions and items the law returns true. Conditions: the library's variables lie as the row says. -/
import Derived.Test.YtnlenappjjlbjaaGreatDoorP38
namespace Go.Proofs.YtnlenappjjlbjaaGreatDoor
open Go.ChangeShapes Go.WideShapes Go.ChangeAt Go.RowKit Go.Shelf
theorem infoU64r : (Tryz.prog.info? 22).map (fun i => (i.zero, i.size, i.bytes)) = some (some (.int .u64 0), 1, 8) := Tryz.infoU64d
set_option maxRecDepth 100000 in
set_option maxHeartbeats 51200000 in
theorem bundleRoundTrip_walk (key : Int) (hkey : Bu.U64 key) (nonce : Int) (hnonce : Bu.U64 nonce) (ses : Int) (A2 : Option Addr) (c2 : Nat) (xs : List Rt.ItL) {k : Nat} (hk : xs.length = k) (hl2 : k ≤ 9223372036854775807) (w : World) (h2 : Rt.SlIt w A2 xs) (hg : Gm w) :
    Calls Tryz.prog 6 #[.int .u64 key, .int .u64 nonce, .int .i64 ses, .slice A2 k c2] w fun e w' => e = .returned (.bool true) ∧ Ext w w' := by
  have HG : Hid (∀ w', Ext w w' → Gm w') := Lib.hid (fun w' he => hg.ext he)
  clear hg
  obtain ⟨B, h_B⟩ : ∃ q, Bu.buildB key nonce ses (Rt.its xs) = q := ⟨_, rfl⟩
  obtain ⟨er, h_er⟩ : ∃ q, Bu.buildE ses (Rt.its xs) = q := ⟨_, rfl⟩
  obtain ⟨nb, h_nb⟩ : ∃ q, B.length = q := ⟨_, rfl⟩
  have K1 := Lib.hid (fun W h hg => (bbuild_any key nonce ses hkey hnonce A2 c2 xs hk W h hl2 hg).mono fun e w' h => And.intro (BldP.use h.1 h_B h_er h_nb) h.2)
  have HNB := Lib.hid h_nb
  have HER := Lib.hid h_er
  have HOK : Hid (∀ it ∈ Rt.its xs, It.Ok it) := Lib.hid (fun it hi => by
    obtain ⟨y, hy, rfl⟩ := List.mem_map.1 hi
    exact (h2.2 y hy).ok)
  have HXK := Lib.hid hk
  have HKEY := Lib.hid hkey
  have HNON := Lib.hid hnonce
  have HBU : Hid (er = 0 → B = Bu.bundB key nonce ses (Rt.its xs) ∧ Bu.buildE ses (Rt.its xs) = 0) := Lib.hid (fun h0 => by
    rw [h0] at h_er
    refine ⟨?_, h_er⟩
    rw [← h_B]
    unfold Bu.buildB
    rw [h_er, if_pos rfl])
  have HB0 : Hid (er ≠ 0 → nb = 0) := Lib.hid (fun h0 => by
    rw [← h_nb, ← h_B]
    unfold Bu.buildB
    rw [h_er, if_neg h0]
    rfl)
  have HBL : Hid (er = 0 → nb ≤ 1048612 ∧ 36 ≤ nb) := Lib.hid (fun h0 => by
    obtain ⟨e1, e2⟩ := HBU.out h0
    have e3 := (Bu.fits_treeB HOK.out (Bu.buildE_parts e2).2.2).2
    rw [← h_nb, e1, Bu.bund_len]
    omega)
  have H2 := Lib.hid h2
  have HI0 := Lib.hid h2
  clear h2 h_B h_er h_nb hkey hnonce hk
  go_enter Tryz.func6, Tryz.ntmps6
  have X_0 := Lib.hid (Ext.refl w)
  go_wp2_with fail
  with_reducible refine (K1.out w H2.out (fun w' hx => HG.out w' (X_0.out.trans hx))).mono ?_
  rintro e w1 ⟨⟨A4, c4, rfl, hs4, hc4⟩, hb⟩
  have HI_1 := Lib.hid (H2.out.ext hb)
  clear H2
  have X_1 := Lib.hid (X_0.out.trans hb)
  clear X_0
  have S4_1 := Lib.hid (hs4)
  clear hb hs4
  clear K1
  rcases Classical.em (er = 0) with h0 | h0
  · have t0 : (er != 0) = false := by rw [h0]; rfl
    subst h0
    obtain ⟨e1, e2⟩ := HBU.out (by first | rfl | trivial)
    obtain ⟨e3, e4⟩ := HBL.out (by first | rfl | trivial)
    obtain ⟨p1, p2, p3⟩ := Bu.buildE_parts e2
    have hkk : k ≤ 60 := by have := Rs.chkI_few p3; rw [Rt.its_len, HXK.out] at this; exact this
    have HCH := Lib.hid p3
    have hBy := Bu.bund_byt (k := key) (n := nonce) e2 HOK.out
    rw [← e1] at hBy
    have ho := Bu.open_bund (k := key) e2 HOK.out HNON.out
    have hhE := Bu.bund_headE (k := key) (n := nonce) e2
    have hhS := Bu.bund_headS (k := key) (n := nonce) e2
    have hhN := Bu.bund_headN (k := key) (n := nonce) e2
    have hhR := Bu.bund_headR (k := key) (n := nonce) (s := ses) (its := Rt.its xs)
    have hck := Bu.chk_bund (k := key) (n := nonce) e2
    rw [← e1] at ho hhE hhS hhN hhR hck
    rw [Rt.its_len, HXK.out] at hhN
    have hso : Bu.opnS key B = ses := by unfold Bu.opnS; rw [ho, if_pos rfl, hhS]
    have K3 := Lib.hid ((bopen_any key HKEY.out A4 c4 B HNB.out hc4 hBy (by omega) w1 S4_1.out (fun w' hx => HG.out w' (X_1.out.trans hx))).mono fun e w' h => And.intro (RetO.use h.1 ho hso (show (Rt.its xs).length = k by rw [Rt.its_len, HXK.out])) h.2)
    have K4 := fun W h => head_any A4 c4 B HNB.out hc4 hBy (by omega) W h
    unfold Bu.hdS Bu.hdN Bu.hdR at K4
    simp only [hhE, if_true, hhS, hhN, hhR] at K4
    have HK4 := Lib.hid K4
    clear K4
    have HHCK := Lib.hid hck
    have HBY := Lib.hid hBy
    clear ho hhE hhS hhN hhR hck hso hBy e1 e2 p3
    go_wp2_with fail
    with_reducible refine (K3.out).mono ?_
    rintro e w2 ⟨⟨A6, c6, ys, rfl, hy6, hs6⟩, hb⟩
    have HI_2 := Lib.hid (HI_1.out.ext hb)
    have S4_2 := Lib.hid (S4_1.out.ext hb)
    clear HI_1 S4_1
    have X_2 := Lib.hid (X_1.out.trans hb)
    clear X_1
    have S6_2 := Lib.hid (hs6)
    clear hb hs6
    have HY6 := Lib.hid hy6
    have hyk : ys.length = k := by rw [← Rt.its_len, hy6, Rt.its_len, HXK.out]
    have HYK := Lib.hid hyk
    clear hy6 hyk K3
    go_wp2_with fail
    with_reducible refine (HK4.out w2 S4_2.out).mono ?_
    rintro e w3 ⟨rfl, hb⟩
    have HI_3 := Lib.hid (HI_2.out.ext hb)
    have S4_3 := Lib.hid (S4_2.out.ext hb)
    have S6_3 := Lib.hid (S6_2.out.ext hb)
    clear HI_2 S4_2 S6_2
    have X_3 := Lib.hid (X_2.out.trans hb)
    clear X_2
    clear hb
    have tses : (ses != ses) = false := by simp
    have tk : ((k : Int) != (k : Int)) = false := by simp
    have tsp : decide (ses < 1) = false := decide_eq_false (by omega)
    have K5 := Lib.hid (sameItems_eq A6 A2 c6 c2 ys xs HYK.out HY6.out w3 S6_3.out HI_3.out hl2)
    clear HK4
    go_wp2_with fail
    with_reducible refine (K5.out).mono ?_
    rintro e w4 ⟨rfl, hb⟩
    have HI_4 := Lib.hid (HI_3.out.ext hb)
    have S4_4 := Lib.hid (S4_3.out.ext hb)
    have S6_4 := Lib.hid (S6_3.out.ext hb)
    clear HI_3 S4_3 S6_3
    have X_4 := Lib.hid (X_3.out.trans hb)
    clear X_3
    clear hb
    have K6 := Lib.hid (bcheck2_any A4 c4 B HNB.out hc4 HBY.out (by omega) A6 c6 ys HYK.out hl2 (v := 0) (by rw [HY6.out]; exact HHCK.out) w4 S4_4.out S6_4.out (fun w' hx => HG.out w' (X_4.out.trans hx)))
    clear K5
    go_wp2_with fail
    with_reducible refine (K6.out).mono ?_
    rintro e w5 ⟨rfl, hb⟩
    have HI_5 := Lib.hid (HI_4.out.ext hb)
    have S4_5 := Lib.hid (S4_4.out.ext hb)
    have S6_5 := Lib.hid (S6_4.out.ext hb)
    clear HI_4 S4_4 S6_4
    have X_5 := Lib.hid (X_4.out.trans hb)
    clear X_4
    clear hb
    clear K6
    clear S4_5 S6_5
    have HX0 := Lib.hid (X_5.out)
    obtain ⟨i0, hi0, hz0, hz1, hz2⟩ := info_parts infoU64r
    have HR0 : Hid (RowD w.heap.size [] (w5.alloc (.cells #[] 22)) (.slice (some ⟨w5.heap.size, 0, none⟩) 0 0)) := Lib.hid (own_zeroD _ _ _ HX0.out.size)
    have HX1 := Lib.hid (HX0.out.alloc (.cells #[] 22))
    have HDL : Hid (((Rt.its xs).map It.dg).length = k) := Lib.hid (by rw [List.length_map, Rt.its_len, HXK.out])
    have HSA := Lib.hid (fun wr (hx : Ext w wr) => HI0.out.ext hx)
    have HRX := Lib.hid (fun W h hg => broot_any A2 c2 xs HXK.out W h hl2 hg)
    rw [HCH.out, if_pos rfl] at HRX
    obtain ⟨rv, hrv⟩ : ∃ rv, Bu.rootV (Rt.its xs) = rv := ⟨_, rfl⟩
    rw [hrv] at HRX ⊢
    have HRV := Lib.hid hrv
    clear hrv
    go_wp2_with fail
    go_loopw [17, 18] (fun p i wr => ∃ (q : Nat) (v : Value), v = p ∧ q ≤ k ∧ i = .int .i64 (q : Int) ∧ Hid (RowD w.heap.size (((Rt.its xs).map It.dg).take q) wr v) ∧ Hid (Ext w wr)) (fun _ i _ => k - (intOf i).toNat)
    case atStart => exact ⟨0, _, rfl, Nat.zero_le _, rfl, HR0, HX1⟩
    case round =>
      clear HR0 HX1
      obtain ⟨q, v, rfl, hk, rfl, HR, HE⟩ := hrel
      have HRL : Hid ((((Rt.its xs).map It.dg).take q).length = q) := Lib.hid (by rw [List.length_take, HDL.out]; omega)
      have hof := own_form HR.out
      rw [HRL.out] at hof
      obtain ⟨Av, cv, rfl⟩ := hof
      by_cases hlt : q < k
      · obtain ⟨x, hx⟩ : ∃ x, xs[q]? = some x := ⟨xs[q]'(by rw [HXK.out]; exact hlt), List.getElem?_eq_getElem _⟩
        obtain ⟨b, off, rfl, hb, hc, hin⟩ := (HSA.out wr HE.out).at_ hx
        obtain ⟨CA, hca, hna, h1a, hka⟩ := rs_packed x.1 x.2
        have HC : Hid (wr.rangeAt b (off + q * 17) CA.toList) := Lib.hid (by rw [← hka]; exact hc)
        have HI := Lib.hid hin
        have IA := Lib.hid (Rt.infoItem hna)
        have ki0 : (0 : Int) ≤ (q : Int) := by omega
        have ki1 : (q : Int) < (k : Int) := by omega
        have hvl : It.vld x.1 = 0 := Rs.chkI_vld HCH.out (by unfold Rt.its; exact List.mem_map_of_mem (List.mem_of_getElem? hx))
        have HV2 := Lib.hid (digest_any x.1 x.2)
        rw [if_pos hvl, hvl, hca] at HV2
        have HT : Hid (((Rt.its xs).map It.dg).take q ++ [It.dg x.1] = ((Rt.its xs).map It.dg).take (q + 1)) := Lib.hid (by
          rw [List.take_add_one, List.getElem?_map, Rt.its_at hx]; rfl)
        generalize It.dg x.1 = dx at *
        clear hx hc hin hca hka hna h1a hvl
        go_wp2_with (with_reducible refine wpList_load_arr rfl 45 (.tmp 96) rfl b (off + q * 17) (by with_unfolding_all rfl) CA _ HC.out Tryz.underlying45 rfl IA.out ?_)
        with_reducible refine (HV2.out _ HI.out (fun w' hx => HG.out w' (HE.out.trans hx))).mono ?_
        rintro e w8 ⟨rfl, hb3⟩
        obtain ⟨W6, hW6⟩ : ∃ W, w8.alloc (.cells #[.int .u64 dx] 22) = W := ⟨_, rfl⟩
        have hx6 : Ext w8 W6 := by rw [← hW6]; exact (Ext.refl _).alloc _
        have HSL : Hid (Sl W6 1 (some ⟨w8.heap.size, 0, none⟩) [[.int .u64 dx]]) := Lib.hid (by rw [← hW6]; exact Sl.new w8 [.int .u64 dx] 22)
        have HO6 : Hid (W6.ownsRow w.heap.size 22 1 (.slice Av q cv) q ((((Rt.its xs).map It.dg).take q).map (Value.int .u64))) := Lib.hid (by
          have := RowD.ext HR.out (hb3.trans hx6)
          unfold RowD at this
          rw [HRL.out] at this
          exact this)
        have X6 := Lib.hid ((HE.out.trans hb3).trans hx6)
        have HE6 := Lib.hid hW6
        clear hb3 hW6 hx6
        go_wp2_with (first
          | (rw [HE6.out])
          | (at_builtin; refine wpList_append_k rfl _ _ 40 rfl w.heap.size 22 i0 (.int .u64 0) 1 8 Tryz.underlying40 hi0 hz0 hz1 hz2 rfl (by decide) (.slice Av q cv) q _ rfl HO6.out (some ⟨w8.heap.size, 0, none⟩) 1 1 [[.int .u64 dx]] rfl rfl HSL.out (by simp) (by simp [Value.oneCell']) (by unfold maxLen; omega) (by omega) X6.out.size ?_; intro A' c' w9 hown8 hgr8 _
             have HO8 := Lib.hid hown8
             have X8 := Lib.hid (X6.out.grown hgr8 (fun q hq => own_ge HO6.out q hq))
             clear hown8 hgr8))
        refine ⟨⟨q + 1, _, rfl, by omega, by go_num, Lib.hid ?_, X8⟩, by simp [intOf] <;> omega⟩
        rw [← HT.out]
        unfold RowD
        rw [List.length_append, HRL.out, List.map_append]
        exact HO8.out
      · have hkn : q = k := by omega
        subst hkn
        have ki1 : ¬ (q : Int) < (q : Int) := by omega
        have HT : Hid (((Rt.its xs).map It.dg).take q = (Rt.its xs).map It.dg) := Lib.hid (List.take_of_length_le (by have := HDL.out; omega))
        have hsl := RowD.sl HR.out
        rw [HT.out] at hsl
        have HDS := Lib.hid hsl
        have HK := Lib.hid (HRX.out wr (HSA.out wr HE.out) (fun w' hx => HG.out w' (HE.out.trans hx)))
        clear hsl hlt
        go_wp2_with fail
        with_reducible refine HK.out.mono ?_
        rintro e w8 ⟨rfl, hx8⟩
        have HE8 := Lib.hid (HE.out.trans hx8)
        have trv : (rv == rv) = true := by simp
        have hdr := root_any Av cv ((Rt.its xs).map It.dg) q HDL.out (by omega) (fun y hy => by
          obtain ⟨it, -, rfl⟩ := List.mem_map.1 hy
          exact Bu.dg_range it) w8 (HDS.out.ext hx8)
        rw [show Bu.droot ((Rt.its xs).map It.dg) = rv from HRV.out] at hdr
        have HK2 := Lib.hid hdr
        clear hx8 HK hdr
        go_wp2_with fail
        with_reducible refine HK2.out.mono ?_
        rintro e w9 ⟨rfl, hx9⟩
        have HE9 := Lib.hid (HE8.out.trans hx9)
        clear hx9 HK2
        go_wp2_with fail
        with_reducible refine (awake_any w9 (fun w' he => HG.out _ (HE9.out.trans he))).mono ?_
        rintro e w10 ⟨rfl, hb⟩
        have XL := Lib.hid (HE9.out.trans hb)
        clear hb
        go_wp2
        go_ret
        exact ⟨rfl, XL.out⟩
  · have t0 : (er != 0) = true := by rw [bne_iff_ne]; exact h0
    obtain rfl := HB0.out h0
    go_wp2_with fail
    with_reducible refine (awake_any w1 (fun w' he => HG.out _ (X_1.out.trans he))).mono ?_
    rintro e w2 ⟨rfl, hb⟩
    have XL := Lib.hid (X_1.out.trans hb)
    clear hb
    go_wp2
    go_ret
    exact ⟨rfl, XL.out⟩
theorem bundleRoundTrip_laid (os : Os) : laidMet Tryz.prog Rows.bundleRoundTripRow.laid ((laidW os).forCall (fun _ _ => 0) ⟨#[], #[.int .u64 0, .int .u64 0, .int .i64 0, .slice none 0 0], []⟩).memory :=
  laidMet_of_run' 8 (by kernel_rfl) (by kernel_rfl)
theorem bundleRoundTrip_reads (os : Os) {H : Type} (enc : TypeId × Value → H) : ∃ places, DataW.whole enc Tryz.prog ((laidW os).forCall (fun _ _ => 0) ⟨#[], #[.int .u64 0, .int .u64 0, .int .i64 0, .slice none 0 0], []⟩).memory Tryz.f6.params.toList Rows.bundleRoundTripSpec.vars false (#[.int .u64 0, .int .u64 0, .int .i64 0, .slice none 0 0] : Array Value).toList 8 = some ([.lit (.int .u64 0), .lit (.int .u64 0), .lit (.int .i64 0), .nil], [], places) :=
  ⟨[], by kernel_rfl⟩
set_option maxRecDepth 100000 in
theorem bundleRoundTrip_lifted (os : Os) (started : os.Started) (H : Type) (enc : TypeId × Value → H) (F : Stop.Interp) :
    ReturnsInHanded {} Tryz.checked os 6 .any ((OpenSpec.ofChange Rows.bundleRoundTripSpec).preRow enc Tryz.prog Tryz.f6 Rows.bundleRoundTripRow.domain false Rows.bundleRoundTripRow.laid) (((OpenSpec.ofChange Rows.bundleRoundTripSpec).at F).post enc Tryz.prog Tryz.f6 false true false false) := by
  obtain ⟨places, hx⟩ := bundleRoundTrip_reads os enc
  refine returnsInHanded_of_row (C := Tryz.checked) (s := (OpenSpec.ofChange Rows.bundleRoundTripSpec)) Tryz.own started (by kernel_rfl) Tryz.func6
    (witness_row_at (enc := enc) (C := Tryz.checked) false (laidW os) #[.int .u64 0, .int .u64 0, .int .i64 0, .slice none 0 0] rfl (by kernel_rfl) (by kernel_rfl) (by kernel_rfl)
      (OpenSpec.preRow_of_cond 8 hx (by kernel_rfl) (fun k hk => by cases hk) (by kernel_rfl) (bundleRoundTrip_laid os))) ?_
  intro W base args ds gs before hval0 hW _ hcond hsz0 hL hsh _
  have hval : ∀ (j : Nat) t v, Tryz.f6.params[j]? = some t → args[j]? = some v → Value.okWide Tryz.prog W .any base t v := hval0
  have hW' : DataW.Whole enc Tryz.prog Tryz.f6.params.toList Rows.bundleRoundTripSpec.vars false W args.toList ds gs before := hW
  have hW2 := hW'
  obtain ⟨p, q, hA0, hV, rfl, hfz, hnd⟩ := hW2
  have hA : DataW.TrodAll enc Tryz.prog W 0 (fun _ => true) true Tryz.f6.params.toList args.toList ds p := hA0
  rw [Tryz.params6] at hA hval
  obtain ⟨v0, vs0, d0, ds0, p0, q0, hargs, rfl, rfl, h0, r0⟩ := trodAll_cons hA
  obtain ⟨v1, vs1, d1, ds1, p1, q1, rfl, rfl, rfl, h1, r1⟩ := trodAll_cons r0
  obtain ⟨v2, vs2, d2, ds2, p2, q2, rfl, rfl, rfl, h2, r2⟩ := trodAll_cons r1
  obtain ⟨v3, vs3, d3, ds3, p3, q3, rfl, rfl, rfl, h3, r3⟩ := trodAll_cons r2
  obtain ⟨rfl, rfl, rfl⟩ := trodAll_nil r3
  obtain rfl : args = #[v0, v1, v2, v3] := by cases args; simp_all
  obtain ⟨rfl, rfl⟩ := trodVars_none hV
  obtain ⟨mx, hmx⟩ := Go.Proofs.cell_of_shapedOpen_int (g := 0) (zero := #[.int .i64 0]) (t := 3) hsh (by decide +kernel) (by kernel_rfl) (by decide) (by kernel_rfl) (by kernel_rfl) Tryz.underlying3
  have hsz : (DataW.weightsEach Tryz.prog (Tryz.f6.params.toList ++ Rows.bundleRoundTripSpec.plain.varTypes Tryz.prog) _).all (· ≤ reachBytes) = true := hsz0
  rw [Tryz.params6] at hsz
  obtain ⟨x_0, rfl, hd_0, -, wf_0⟩ := open_int Tryz.underlying22 (hval 0 22 v0 rfl rfl) h0
  obtain ⟨x_1, rfl, hd_1, -, wf_1⟩ := open_int Tryz.underlying22 (hval 1 22 v1 rfl rfl) h1
  obtain ⟨x_2, rfl, hd_2, -, wf_2⟩ := open_int Tryz.underlying3 (hval 2 3 v2 rfl rfl) h2
  obtain ⟨A_3, c_3, l_3, rfl, s_3, k_3, -, y_3⟩ := items_open (hval 3 23 v3 rfl rfl) h3 (light_arg hsz (j := 3) rfl rfl)
  have b_3 : l_3.length ≤ 9223372036854775807 := by omega
  refine (bundleRoundTrip_walk x_0 (u64_wf wf_0) x_1 (u64_wf wf_1) x_2 A_3 c_3 l_3 rfl b_3 W s_3 ⟨mx, hmx⟩).mono fun e W' ⟨he, hw⟩ => ?_
  subst he
  exact ⟨_, rfl, law_post (s := Rows.bundleRoundTripSpec) hW' Tryz.laidOut (by kernel_rfl) rfl (by rfl) rfl Tryz.underlying4 hw⟩

theorem bundleRoundTrip_holds : Rows.BundleRoundTripSaid :=
  OpenClaim.holds_of_cond 6 Tryz.f6 rfl rfl rfl rfl rfl rfl rfl ⟨rfl, rfl, rfl, rfl, rfl⟩ rfl rfl rfl rfl rfl (by kernel_rfl) Tryz.func6 (by kernel_rfl)
    (of_decide_eq_true (by kernel_rfl)) (by unfold Func.isWrapper; first | (rw [if_pos (by decide +kernel)]; kernel_rfl) | (rw [if_neg (by decide +kernel)]; exact ⟨rfl, rfl⟩))
    (fun os started H enc _ F => by rw [OpenClaim.pre_eq_preRow]; exact bundleRoundTrip_lifted os started H enc F)
theorem bundleRoundTrip_card : Rows.BundleRoundTripCardSaid :=
  Claim7.holds_tied_plain_at .later [] _ _ _ _
    bundleRoundTrip_holds (fun _ h => by cases h) (by kernel_rfl) (fun _ h => by cases h) bundleRoundTrip_row_tie rfl ⟨rfl, rfl⟩ (by kernel_rfl) rfl
    (fun f fn hf hfn => by
      obtain rfl : f = 6 := Option.some.inj ((show Tryz.prog.funcNamed Rows.bundleRoundTripRow.func = some 6 by kernel_rfl).symm.trans hf) |>.symm
      obtain rfl : fn = Tryz.f6 := (Option.some.inj (Tryz.func6.symm.trans hfn)).symm
      exact ⟨by kernel_rfl, fun j t ht => by
        rw [Tryz.params6] at ht
        have hm : t ∈ [22, 3, 23] := by simpa using Array.mem_of_getElem? ht
        have hall : ([22, 3, 23].all fun u => !Tryz.prog.wantsStandIn u) = true := by kernel_rfl
        exact (show Tryz.prog.wantsStandIn t = false by simpa using List.all_eq_true.1 hall t hm)⟩)
    (by kernel_rfl)
#print axioms bundleRoundTrip_card
end Go.Proofs.YtnlenappjjlbjaaGreatDoor
