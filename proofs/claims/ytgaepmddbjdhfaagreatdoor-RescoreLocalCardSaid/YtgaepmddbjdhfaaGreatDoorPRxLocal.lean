/- RescoreLocal: for all items, changes, answers and steps the law returns true. Conditions: the library's variables lie as the row says. -/
import Derived.Test.YtgaepmddbjdhfaaGreatDoorP35
import Derived.Test.YtgaepmddbjdhfaaGreatDoorP29
import Derived.Test.YtgaepmddbjdhfaaGreatDoorP33
import Derived.Test.YtgaepmddbjdhfaaGreatDoorP37
namespace Go.Proofs.YtgaepmddbjdhfaaGreatDoor
open Go.ChangeShapes Go.WideShapes Go.ChangeAt Go.RowKit
set_option maxRecDepth 100000 in
set_option maxHeartbeats 25600000 in
theorem rescoreLocal_walk (A : Option Addr) (c : Nat) (xs : List Rt.ItL) (A1 : Option Addr) (c1 : Nat) (cs : List Rt.ChL) (A2 : Option Addr) (c2 : Nat) (al : List Rt.AnL) (A3 : Option Addr) (c3 : Nat) (ss : List Rs.Stp) {n k m s : Nat} (hn : xs.length = n) (hk : cs.length = k) (hm : al.length = m) (hs : ss.length = s) (w : World) (h : Rt.SlIt w A xs) (h1 : Rt.SlCh w A1 cs) (h2 : Rt.SlAn w A2 al) (h3 : Rt.SlSt w A3 ss) (hl : n ≤ 9223372036854775807) (hl1 : k ≤ 9223372036854775807) (hl2 : m ≤ 9223372036854775807) (hl3 : s * 8 ≤ 140737488355328) (hg : Gm w) :
    Calls Tryz.prog 5 #[.slice A n c, .slice A1 k c1, .slice A2 m c2, .slice A3 s c3] w fun e w' => e = .returned (.bool true) ∧ Ext w w' := by
  have hs63 : s ≤ 9223372036854775807 := by omega
  have K1 := Lib.hid (fun w h h1 hg => kitems_any A c xs A1 c1 cs hn hk w h h1 hl hl1 hg)
  have K2 := Lib.hid (fun w h h2 h3 hg => ksteps_any A c xs A2 c2 al A3 c3 ss hn hm hs w h h2 h3 hl hl2 hs63 hg)
  obtain ⟨er, h_er⟩ : ∃ q, Rs.itmE (Rt.its xs) (Rt.chs cs) = q := ⟨_, rfl⟩
  obtain ⟨af, h_af⟩ : ∃ q, Rs.itmL (Rt.its xs) (Rt.chs cs) = q := ⟨_, rfl⟩
  obtain ⟨e2, h_e2⟩ : ∃ q, Rs.stsE (Rt.its xs) (Rt.ans al) ss = q := ⟨_, rfl⟩
  obtain ⟨e3, h_e3⟩ : ∃ q, Rs.stsE af (Rt.ans al) ss = q := ⟨_, rfl⟩
  have HLW : Hid (er = 0 → e2 = 0 → e3 = 0 → _) := Lib.hid (fun q1 q2 q3 => Rs.local_law (its := Rt.its xs) (l := Rt.chs cs) (an := Rt.ans al) (ss := ss) (h_er.trans q1) (h_e2.trans q2) (by rw [h_af]; exact h_e3.trans q3))
  have HL2 : Hid (e2 = 0 → (Rs.stsL (Rt.its xs) (Rt.ans al) ss).length = s ∧ s ≤ 18) := Lib.hid (fun h => by
    obtain ⟨q1, q2, -, -, q5⟩ := Rs.stsE_parts (h_e2.trans h)
    rw [q5, Rs.stsV_len q2]
    exact ⟨hs, by rw [← hs]; exact q1⟩)
  have HL3 : Hid (e3 = 0 → (Rs.stsL af (Rt.ans al) ss).length = s) := Lib.hid (fun h => by
    obtain ⟨q1, q2, -, -, q5⟩ := Rs.stsE_parts (h_e3.trans h)
    rw [q5, Rs.stsV_len q2]
    exact hs)
  obtain ⟨a, h_a⟩ : ∃ q, Rs.stsL (Rt.its xs) (Rt.ans al) ss = q := ⟨_, rfl⟩
  obtain ⟨b, h_b⟩ : ∃ q, Rs.stsL af (Rt.ans al) ss = q := ⟨_, rfl⟩
  rw [h_er, h_af] at K1
  rw [h_e2, h_a] at K2
  rw [h_af, h_a, h_b] at HLW
  rw [h_a] at HL2
  rw [h_b] at HL3
  unfold Rt.RetSt at K2
  unfold Rt.RetIt at K1
  have H_e3 := Lib.hid h_e3
  have H_b := Lib.hid h_b
  have HLS := Lib.hid hs
  have HLC := Lib.hid hk
  have HLX := Lib.hid hn
  have HLA := Lib.hid hm
  have HG : Hid (∀ w', Ext w w' → Gm w') := Lib.hid (fun w' he => hg.ext he)
  have H := Lib.hid h
  have H1 := Lib.hid h1
  have H2 := Lib.hid h2
  have H3 := Lib.hid h3
  clear h_er h_af h_e2 h_e3 h_a h_b h h1 h2 h3 hg hn hm hs hk
  go_enter Tryz.func5, Tryz.ntmps5
  have X_0 := Lib.hid (Ext.refl w)
  go_wp2_with fail
  with_reducible refine (K1.out w H.out H1.out (HG.out _ X_0.out)).mono ?_
  rintro e w1 ⟨⟨A4, c4, ys, hys, rfl, hs4, hk4, hm4⟩, hb⟩
  have H_1 := Lib.hid (H.out.ext hb)
  have H1_1 := Lib.hid (H1.out.ext hb)
  have H2_1 := Lib.hid (H2.out.ext hb)
  have H3_1 := Lib.hid (H3.out.ext hb)
  clear H H1 H2 H3
  have X_1 := Lib.hid (X_0.out.trans hb)
  clear X_0
  have S4_1 := Lib.hid (hs4)
  clear hb hs4
  have HYS := Lib.hid hys
  have HLY : ys.length ≤ 9223372036854775807 := Nat.le_trans hk4 (Nat.le_trans hm4 (by decide))
  clear hys hk4 hm4
  obtain ⟨ny, hny⟩ : ∃ q, ys.length = q := ⟨_, rfl⟩
  rw [hny] at HLY ⊢
  have HNY := Lib.hid hny
  clear hny
  rcases Classical.em (er = 0) with h0 | h0
  · have t0 : (er != 0) = false := by rw [h0]; rfl
    subst h0
    go_wp2_with fail
    with_reducible refine (K2.out w1 H_1.out H2_1.out H3_1.out (HG.out _ X_1.out)).mono ?_
    rintro e w2 ⟨⟨A5, c5, rfl, hs5, hk5, hm5⟩, hb⟩
    have H_2 := Lib.hid (H_1.out.ext hb)
    have H1_2 := Lib.hid (H1_1.out.ext hb)
    have H2_2 := Lib.hid (H2_1.out.ext hb)
    have H3_2 := Lib.hid (H3_1.out.ext hb)
    have S4_2 := Lib.hid (S4_1.out.ext hb)
    clear H_1 H1_1 H2_1 H3_1 S4_1
    have X_2 := Lib.hid (X_1.out.trans hb)
    clear X_1
    have S5_2 := Lib.hid (hs5)
    clear hb hs5
    have HL5 : a.length ≤ 9223372036854775807 := Nat.le_trans hk5 (Nat.le_trans hm5 (by decide))
    clear hk5 hm5
    have hK := ksteps_any A4 c4 ys A2 c2 al A3 c3 ss HNY.out HLA.out HLS.out w2 S4_2.out H2_2.out H3_2.out HLY hl2 hs63 (HG.out _ X_2.out)
    rw [HYS.out, H_e3.out, H_b.out] at hK
    unfold Rt.RetSt at hK
    have HK := Lib.hid hK
    clear hK
    go_wp2_with fail
    with_reducible refine (HK.out).mono ?_
    rintro e w3 ⟨⟨A6, c6, rfl, hs6, hk6, hm6⟩, hb⟩
    have H_3 := Lib.hid (H_2.out.ext hb)
    have H1_3 := Lib.hid (H1_2.out.ext hb)
    have H2_3 := Lib.hid (H2_2.out.ext hb)
    have H3_3 := Lib.hid (H3_2.out.ext hb)
    have S4_3 := Lib.hid (S4_2.out.ext hb)
    have S5_3 := Lib.hid (S5_2.out.ext hb)
    clear H_2 H1_2 H2_2 H3_2 S4_2 S5_2
    have X_3 := Lib.hid (X_2.out.trans hb)
    clear X_2
    have S6_3 := Lib.hid (hs6)
    clear hb hs6
    have HL6 : b.length ≤ 9223372036854775807 := Nat.le_trans hk6 (Nat.le_trans hm6 (by decide))
    clear hk6 hm6 HK
    rcases Classical.em (e2 = 0) with h0 | h0
    · have t0 : (e2 != 0) = false := by rw [h0]; rfl
      have q2 := h0
      subst h0
      clear t0
      rcases Classical.em (e3 = 0) with h0 | h0
      · have t0 : (e3 != 0) = false := by rw [h0]; rfl
        obtain ⟨a1, a2, a3, a4⟩ := HLW.out (by first | rfl | trivial) q2 h0
        have hLa := HL2.out q2
        have hLb := HL3.out h0
        subst h0
        have hK := kchanged_any A5 A6 c5 c6 a b hLa.1 hLb w3 S5_3.out S6_3.out (by omega) (by omega) (by omega)
        rw [a1] at hK
        unfold Rt.RetCh at hK
        have HK := Lib.hid hK
        have hK2 := affected_any A A4 c c4 xs ys A2 c2 al HLX.out HNY.out HLA.out
        obtain ⟨d, hd⟩ : ∃ q, Rs.chdL a b = q := ⟨_, rfl⟩
        rw [hd] at HK a3 a4
        rw [HYS.out, a2, a3] at hK2
        have HK2 := Lib.hid hK2
        have HA4 := Lib.hid a4
        clear hK hK2 a1 a2 a3 a4 hd
        go_wp2_with fail
        with_reducible refine (HK.out).mono ?_
        rintro e w4 ⟨⟨A7, c7, rfl, hs7, hk7, hm7⟩, hb⟩
        have H_4 := Lib.hid (H_3.out.ext hb)
        have H1_4 := Lib.hid (H1_3.out.ext hb)
        have H2_4 := Lib.hid (H2_3.out.ext hb)
        have H3_4 := Lib.hid (H3_3.out.ext hb)
        have S4_4 := Lib.hid (S4_3.out.ext hb)
        have S5_4 := Lib.hid (S5_3.out.ext hb)
        have S6_4 := Lib.hid (S6_3.out.ext hb)
        clear H_3 H1_3 H2_3 H3_3 S4_3 S5_3 S6_3
        have X_4 := Lib.hid (X_3.out.trans hb)
        clear X_3
        have S7_4 := Lib.hid (hs7)
        clear hb hs7
        have HL7 : d.length ≤ 9223372036854775807 := Nat.le_trans hk7 (Nat.le_trans hm7 (by decide))
        clear hk7 hm7 HK
        obtain ⟨nd, hnd⟩ : ∃ q, d.length = q := ⟨_, rfl⟩
        rw [hnd] at HK2 HL7 ⊢
        have HND := Lib.hid hnd
        clear hnd
        go_wp2_with fail
        with_reducible refine (HK2.out w4 H_4.out S4_4.out H2_4.out hl HLY hl2 (HG.out _ X_4.out)).mono ?_
        rintro e w5 ⟨rfl, hb⟩
        have H_5 := Lib.hid (H_4.out.ext hb)
        have H1_5 := Lib.hid (H1_4.out.ext hb)
        have H2_5 := Lib.hid (H2_4.out.ext hb)
        have H3_5 := Lib.hid (H3_4.out.ext hb)
        have S4_5 := Lib.hid (S4_4.out.ext hb)
        have S5_5 := Lib.hid (S5_4.out.ext hb)
        have S6_5 := Lib.hid (S6_4.out.ext hb)
        have S7_5 := Lib.hid (S7_4.out.ext hb)
        clear H_4 H1_4 H2_4 H3_4 S4_4 S5_4 S6_4 S7_4
        have X_5 := Lib.hid (X_4.out.trans hb)
        clear X_4
        clear hb
        clear HK2
        rcases Nat.eq_zero_or_pos nd with hz | hz
        · subst hz
          rw [show decide (0 < 0) = false from rfl]
          go_wp2_with fail
          go_loopw [16] (fun i wr => i = .int .i64 0 ∧ Ext w5 wr) (fun _ _ => 0)
          case atStart => exact ⟨rfl, Ext.refl _⟩
          case round =>
            obtain ⟨rfl, he⟩ := hrel
            have XW := Lib.hid (X_5.out.trans he)
            go_wp2_with fail
            with_reducible refine (awake_any wr (fun w' he' => HG.out _ (XW.out.trans he'))).mono ?_
            rintro e w9 ⟨rfl, hb⟩
            have XL := Lib.hid (XW.out.trans hb)
            clear hb
            go_wp2
            go_ret
            exact ⟨rfl, XL.out⟩
        · rw [show decide (0 < nd) = true from decide_eq_true hz]
          have hz' : (0 : Int) < (nd : Int) := by omega
          go_wp2_with fail
          go_loopw [16] (fun i wr => ∃ k : Nat, k ≤ nd ∧ i = .int .i64 k ∧ Ext w5 wr) (fun i _ => nd - (intOf i).toNat)
          case atStart => exact ⟨0, by omega, rfl, Ext.refl _⟩
          case round =>
            obtain ⟨k, hk, rfl, he⟩ := hrel
            by_cases hlt : k < nd
            · obtain ⟨ci, hci⟩ : ∃ ci, d[k]? = some ci := ⟨d[k]'(by rw [HND.out]; exact hlt), List.getElem?_eq_getElem _⟩
              obtain ⟨i, s0, j, x0, rfl, hs0, hx0, hid⟩ := HA4.out ci (List.mem_of_getElem? hci)
              have hy : ∃ y, cs[j]? = some y ∧ y.1.1.id = s0.1 := by
                unfold Rt.chs at hx0
                rw [List.getElem?_map] at hx0
                cases hcj : cs[j]? with
                | none => rw [hcj] at hx0; cases hx0
                | some y =>
                  rw [hcj] at hx0
                  refine ⟨y, rfl, ?_⟩
                  rw [← hid, ← Option.some.inj hx0]
              obtain ⟨y, hy1, hy2⟩ := hy
              have his : i < s := by rw [← HLS.out]; exact (List.getElem?_eq_some_iff.1 hs0).1
              obtain ⟨b7, o7, x7, rfl, hb7, hx7, e7⟩ := (S7_5.out.ext he).at_ (i := k) (by rw [HND.out]; exact hlt)
              obtain rfl := Option.some.inj (hci.symm.trans hx7)
              obtain ⟨b3, o3, rfl, hb3, e3, -⟩ := (H3_5.out.ext he).at_ hs0
              have HY := Lib.hid hy1
              have HE := Lib.hid hy2
              have HW := Lib.hid he
              have ki0 : (0 : Int) ≤ (k : Int) := by omega
              have ki1 : (k : Int) < (nd : Int) := by omega
              have ii0 : (0 : Int) ≤ (i : Int) := by omega
              have ii1 : (i : Int) < (s : Int) := by omega
              have t1 : decide ((i : Int) < 0) = false := decide_eq_false (by omega)
              have t2 : decide ((s : Int) ≤ (i : Int)) = false := decide_eq_false (by omega)
              clear hci hs0 hx0 hid hy1 hy2 hx7 he
              go_wp2_with fail
              with_reducible refine (named_true A1 c1 cs HLC.out s0.1 HY.out HE.out wr (H1_5.out.ext HW.out) hl1).mono ?_
              rintro e _ ⟨rfl, rfl⟩
              go_wp2
              go_roundw
              case rel => exact ⟨k + 1, by omega, by go_num, HW.out⟩
              case measure => simp [intOf]; omega
            · obtain rfl : k = nd := by omega
              have XW := Lib.hid (X_5.out.trans he)
              go_wp2_with fail
              with_reducible refine (awake_any wr (fun w' he' => HG.out _ (XW.out.trans he'))).mono ?_
              rintro e w9 ⟨rfl, hb⟩
              have XL := Lib.hid (XW.out.trans hb)
              clear hb
              go_wp2
              go_ret
              exact ⟨rfl, XL.out⟩
      · have t0 : (e3 != 0) = true := by rw [bne_iff_ne]; exact h0
        go_wp2_with fail
        with_reducible refine (awake_any w3 (fun w' he => HG.out _ (X_3.out.trans he))).mono ?_
        rintro e w4 ⟨rfl, hb⟩
        have XL := Lib.hid (X_3.out.trans hb)
        clear hb
        go_wp2
        go_ret
        exact ⟨rfl, XL.out⟩
    · have t0 : (e2 != 0) = true := by rw [bne_iff_ne]; exact h0
      go_wp2_with fail
      with_reducible refine (awake_any w3 (fun w' he => HG.out _ (X_3.out.trans he))).mono ?_
      rintro e w4 ⟨rfl, hb⟩
      have XL := Lib.hid (X_3.out.trans hb)
      clear hb
      go_wp2
      go_ret
      exact ⟨rfl, XL.out⟩
  · have t0 : (er != 0) = true := by rw [bne_iff_ne]; exact h0
    go_wp2_with fail
    with_reducible refine (awake_any w1 (fun w' he => HG.out _ (X_1.out.trans he))).mono ?_
    rintro e w2 ⟨rfl, hb⟩
    have XL := Lib.hid (X_1.out.trans hb)
    clear hb
    go_wp2
    go_ret
    exact ⟨rfl, XL.out⟩
theorem rescoreLocal_laid (os : Os) : laidMet Tryz.prog Rows.rescoreLocalRow.laid ((laidW os).forCall (fun _ _ => 0) ⟨#[], #[.slice none 0 0, .slice none 0 0, .slice none 0 0, .slice none 0 0], []⟩).memory :=
  laidMet_of_run' 8 (by kernel_rfl) (by kernel_rfl)
theorem rescoreLocal_reads (os : Os) {H : Type} (enc : TypeId × Value → H) : ∃ places, DataW.whole enc Tryz.prog ((laidW os).forCall (fun _ _ => 0) ⟨#[], #[.slice none 0 0, .slice none 0 0, .slice none 0 0, .slice none 0 0], []⟩).memory Tryz.f5.params.toList Rows.rescoreLocalSpec.vars false (#[.slice none 0 0, .slice none 0 0, .slice none 0 0, .slice none 0 0] : Array Value).toList 8 = some ([.nil, .nil, .nil, .nil], [], places) :=
  ⟨[], by kernel_rfl⟩
set_option maxRecDepth 100000 in
theorem rescoreLocal_lifted (os : Os) (started : os.Started) (H : Type) (enc : TypeId × Value → H) (F : Stop.Interp) :
    ReturnsInHanded {} Tryz.checked os 5 .any ((OpenSpec.ofChange Rows.rescoreLocalSpec).preRow enc Tryz.prog Tryz.f5 Rows.rescoreLocalRow.domain false Rows.rescoreLocalRow.laid) (((OpenSpec.ofChange Rows.rescoreLocalSpec).at F).post enc Tryz.prog Tryz.f5 false true false false) := by
  obtain ⟨places, hx⟩ := rescoreLocal_reads os enc
  refine returnsInHanded_of_row (C := Tryz.checked) (s := (OpenSpec.ofChange Rows.rescoreLocalSpec)) Tryz.own started (by kernel_rfl) Tryz.func5
    (witness_row_at (enc := enc) (C := Tryz.checked) false (laidW os) #[.slice none 0 0, .slice none 0 0, .slice none 0 0, .slice none 0 0] rfl (by kernel_rfl) (by kernel_rfl) (by kernel_rfl)
      (OpenSpec.preRow_of_cond 8 hx (by kernel_rfl) (fun k hk => by cases hk) (by kernel_rfl) (rescoreLocal_laid os))) ?_
  intro W base args ds gs before hval0 hW _ hcond hsz0 hL hsh _
  have hval : ∀ (j : Nat) t v, Tryz.f5.params[j]? = some t → args[j]? = some v → Value.okWide Tryz.prog W .any base t v := hval0
  have hW' : DataW.Whole enc Tryz.prog Tryz.f5.params.toList Rows.rescoreLocalSpec.vars false W args.toList ds gs before := hW
  have hW2 := hW'
  obtain ⟨p, q, hA0, hV, rfl, hfz, hnd⟩ := hW2
  have hA : DataW.TrodAll enc Tryz.prog W 0 (fun _ => true) true Tryz.f5.params.toList args.toList ds p := hA0
  rw [Tryz.params5] at hA hval
  obtain ⟨v0, vs0, d0, ds0, p0, q0, hargs, rfl, rfl, h0, r0⟩ := trodAll_cons hA
  obtain ⟨v1, vs1, d1, ds1, p1, q1, rfl, rfl, rfl, h1, r1⟩ := trodAll_cons r0
  obtain ⟨v2, vs2, d2, ds2, p2, q2, rfl, rfl, rfl, h2, r2⟩ := trodAll_cons r1
  obtain ⟨v3, vs3, d3, ds3, p3, q3, rfl, rfl, rfl, h3, r3⟩ := trodAll_cons r2
  obtain ⟨rfl, rfl, rfl⟩ := trodAll_nil r3
  obtain rfl : args = #[v0, v1, v2, v3] := by cases args; simp_all
  obtain ⟨rfl, rfl⟩ := trodVars_none hV
  obtain ⟨mx, hmx⟩ := Go.Proofs.cell_of_shapedOpen_int (g := 0) (zero := #[.int .i64 0]) (t := 3) hsh (by decide +kernel) (by kernel_rfl) (by decide) (by kernel_rfl) (by kernel_rfl) Tryz.underlying3
  have hsz : (DataW.weightsEach Tryz.prog (Tryz.f5.params.toList ++ Rows.rescoreLocalSpec.plain.varTypes Tryz.prog) _).all (· ≤ reachBytes) = true := hsz0
  rw [Tryz.params5] at hsz
  obtain ⟨A_0, c_0, l_0, rfl, s_0, k_0, -, y_0⟩ := items_open (hval 0 22 v0 rfl rfl) h0 (light_arg hsz (j := 0) rfl rfl)
  have b_0 : l_0.length ≤ 9223372036854775807 := by omega
  obtain ⟨A_1, c_1, l_1, rfl, s_1, k_1, -, y_1⟩ := changes_open (hval 1 43 v1 rfl rfl) h1 (light_arg hsz (j := 1) rfl rfl)
  have b_1 : l_1.length ≤ 9223372036854775807 := by omega
  obtain ⟨A_2, c_2, l_2, rfl, s_2, k_2, -, y_2⟩ := answers_open (hval 2 23 v2 rfl rfl) h2 (light_arg hsz (j := 2) rfl rfl)
  have b_2 : l_2.length ≤ 9223372036854775807 := by omega
  obtain ⟨A_3, c_3, l_3, rfl, s_3, -, k_3, -, y_3⟩ := steps_open (hval 3 24 v3 rfl rfl) h3 (light_arg hsz (j := 3) rfl rfl)
  have b_3 : l_3.length ≤ 9223372036854775807 := by omega
  refine (rescoreLocal_walk A_0 c_0 l_0 A_1 c_1 l_1 A_2 c_2 l_2 A_3 c_3 l_3 rfl rfl rfl rfl W s_0 s_1 s_2 s_3 b_0 b_1 b_2 (by omega) ⟨mx, hmx⟩).mono fun e W' ⟨he, hw⟩ => ?_
  subst he
  exact ⟨_, rfl, law_post (s := Rows.rescoreLocalSpec) hW' Tryz.laidOut (by kernel_rfl) rfl (by rfl) rfl Tryz.underlying4 hw⟩

theorem rescoreLocal_holds : Rows.RescoreLocalSaid :=
  OpenClaim.holds_of_cond 5 Tryz.f5 rfl rfl rfl rfl rfl rfl rfl ⟨rfl, rfl, rfl, rfl, rfl⟩ rfl rfl rfl rfl rfl (by kernel_rfl) Tryz.func5 (by kernel_rfl)
    (of_decide_eq_true (by kernel_rfl)) (by unfold Func.isWrapper; first | (rw [if_pos (by decide +kernel)]; kernel_rfl) | (rw [if_neg (by decide +kernel)]; exact ⟨rfl, rfl⟩))
    (fun os started H enc _ F => by rw [OpenClaim.pre_eq_preRow]; exact rescoreLocal_lifted os started H enc F)
theorem rescoreLocal_card : Rows.RescoreLocalCardSaid :=
  Claim7.holds_tied_plain_at .later [] _ _ _ _
    rescoreLocal_holds (fun _ h => by cases h) (by kernel_rfl) (fun _ h => by cases h) rescoreLocal_row_tie rfl ⟨rfl, rfl⟩ (by kernel_rfl) rfl
    (fun f fn hf hfn => by
      obtain rfl : f = 5 := Option.some.inj ((show Tryz.prog.funcNamed Rows.rescoreLocalRow.func = some 5 by kernel_rfl).symm.trans hf) |>.symm
      obtain rfl : fn = Tryz.f5 := (Option.some.inj (Tryz.func5.symm.trans hfn)).symm
      exact ⟨by kernel_rfl, fun j t ht => by
        rw [Tryz.params5] at ht
        have hm : t ∈ [22, 43, 23, 24] := by simpa using Array.mem_of_getElem? ht
        have hall : ([22, 43, 23, 24].all fun u => !Tryz.prog.wantsStandIn u) = true := by kernel_rfl
        exact (show Tryz.prog.wantsStandIn t = false by simpa using List.all_eq_true.1 hall t hm)⟩)
    (by kernel_rfl)
#print axioms rescoreLocal_card
end Go.Proofs.YtgaepmddbjdhfaaGreatDoor
