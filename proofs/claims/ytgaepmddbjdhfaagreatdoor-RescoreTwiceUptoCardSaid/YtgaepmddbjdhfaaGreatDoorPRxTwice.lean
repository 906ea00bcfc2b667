/- RescoreTwice, where what it reads is of bulk at most 1048576: for all items and changes the law returns true. Conditions: the library's variables lie az the row says; the bulk. -/
import Derived.Test.YtgaepmddbjdhfaaGreatDoorP35
import Derived.Test.YtgaepmddbjdhfaaGreatDoorP29
import Derived.Test.YtgaepmddbjdhfaaGreatDoorP33
import Derived.Test.YtgaepmddbjdhfaaGreatDoorP37
namespace Go.Proofs.YtgaepmddbjdhfaaGreatDoor
open Go.ChangeShapes Go.WideShapes Go.ChangeAt Go.RowKit
theorem cch_len (l : List Rt.ChL) : ∀ c ∈ l.map Rt.cch, c.length = 18 := fun c hc => by
  obtain ⟨x, -, rfl⟩ := List.mem_map.1 hc
  rfl
theorem cch_ones (l : List Rt.ChL) : ∀ c ∈ l.map Rt.cch, ∀ u ∈ c, u.oneCell' = true := fun c hc u hu => by
  obtain ⟨x, -, rfl⟩ := List.mem_map.1 hc
  rcases List.mem_append.1 (show u ∈ It.cells x.1.1 x.1.2 ++ [.int .i64 x.2] from hu) with h | h
  · have := cells_all x.1.1 x.1.2
    rw [Array.all_eq_true'] at this
    exact this u (by simpa using h)
  · simp only [List.mem_cons, List.not_mem_nil, or_false] at h
    subst h
    rfl
theorem Tryz.infoChg : (Tryz.prog.info? 57).map (fun i => (i.zero, i.size, i.bytes)) = some (some (.agg #[.int .i64 0, .int .i64 0, .int .i64 0, .string ⟨#[]⟩, .slice none 0 0, .slice none 0 0, .int .i64 0, .int .i64 0, .slice none 0 0, .int .i64 0, .string ⟨#[]⟩, .int .i64 0, .int .i64 0, .int .i64 0, .int .i64 0, .slice none 0 0, .int .i64 0, .int .i64 0]), 18, 224) := by kernel_rfl
theorem chs_app (a b : List Rt.ChL) : Rt.chs (a ++ b) = Rt.chs a ++ Rt.chs b := List.map_append
set_option maxRecDepth 100000 in
set_option maxHeartbeats 25600000 in
theorem rescoreTwice_walk (A : Option Addr) (c : Nat) (xs : List Rt.ItL) (A1 : Option Addr) (c1 : Nat) (az : List Rt.ChL) (A2 : Option Addr) (c2 : Nat) (bs : List Rt.ChL) {n k m : Nat} (hn : xs.length = n) (hk : az.length = k) (hm : bs.length = m) (w : World) (h : Rt.SlIt w A xs) (h1 : Rt.SlCh w A1 az) (h2 : Rt.SlCh w A2 bs) (hl : n ≤ 9223372036854775807) (hl1 : k ≤ 1048576) (hl2 : m ≤ 1048576) (hg : Gm w) :
    Calls Tryz.prog 6 #[.slice A n c, .slice A1 k c1, .slice A2 m c2] w fun e w' => e = .returned (.bool true) ∧ Ext w w' := by
  obtain ⟨i0, pi0, pz0, pz1, pz2⟩ := info_parts Tryz.infoChg
  have hlk : k ≤ 9223372036854775807 := by omega
  have hlm : m ≤ 9223372036854775807 := by omega
  have K0 := Lib.hid (fun w h hg => kitems_any A c xs none 0 [] hn rfl w h ⟨Or.inl rfl, fun x hx => by cases hx⟩ hl (Nat.zero_le _) hg)
  have K1 := Lib.hid (fun w h h1 hg => kitems_any A c xs A1 c1 az hn hk w h h1 hl hlk hg)
  obtain ⟨e0, h_e0⟩ : ∃ q, Rs.itmE (Rt.its xs) (Rt.chs []) = q := ⟨_, rfl⟩
  obtain ⟨l0, h_l0⟩ : ∃ q, Rs.itmL (Rt.its xs) (Rt.chs []) = q := ⟨_, rfl⟩
  obtain ⟨er, h_er⟩ : ∃ q, Rs.itmE (Rt.its xs) (Rt.chs az) = q := ⟨_, rfl⟩
  obtain ⟨x, h_x⟩ : ∃ q, Rs.itmL (Rt.its xs) (Rt.chs az) = q := ⟨_, rfl⟩
  obtain ⟨e2, h_e2⟩ : ∃ q, Rs.itmE x (Rt.chs bs) = q := ⟨_, rfl⟩
  obtain ⟨y, h_y⟩ : ∃ q, Rs.itmL x (Rt.chs bs) = q := ⟨_, rfl⟩
  obtain ⟨e3, h_e3⟩ : ∃ q, Rs.itmE (Rt.its xs) (Rt.chs (az ++ bs)) = q := ⟨_, rfl⟩
  obtain ⟨z, h_z⟩ : ∃ q, Rs.itmL (Rt.its xs) (Rt.chs (az ++ bs)) = q := ⟨_, rfl⟩
  have L0 : Hid (e0 = 0 → l0 = Rt.its xs) := Lib.hid (fun q => by rw [← h_l0]; exact Rs.twice_none (h_e0.trans q))
  have L1 : Hid (e0 = 0 → 50 < k + m → e3 = 5) := Lib.hid (fun q g => by rw [← h_e3]; exact Rs.twice_many (h_e0.trans q) (by rw [Rt.chs_len, List.length_append, hk, hm]; exact g))
  have L2 : Hid (e0 = 0 → ¬ 50 < k + m → ∀ (p q : Rt.ChL), az.getLast? = some p → bs.head? = some q → q.2 < p.2 → e3 = 15) := Lib.hid (fun q g p r hp hr hlt => by
    rw [← h_e3, chs_app]
    refine Rs.twice_fall (x := (p.1.1, p.2)) (y := (r.1.1, r.2)) (h_e0.trans q) (by rw [List.length_append, Rt.chs_len, Rt.chs_len, hk, hm]; omega) ?_ ?_ hlt
    · unfold Rt.chs; rw [List.getLast?_map, hp]; rfl
    · unfold Rt.chs; rw [List.head?_map, hr]; rfl)
  have L3 : Hid (er = 0 → ¬ 50 < k + m → (∀ (p q : Rt.ChL), az.getLast? = some p → bs.head? = some q → p.2 ≤ q.2) → e2 = e3 ∧ y = z) := Lib.hid (fun q g hj => by
    have := Rs.twice_join (its := Rt.its xs) (a := Rt.chs az) (b := Rt.chs bs) (h_er.trans q) (by rw [List.length_append, Rt.chs_len, Rt.chs_len, hk, hm]; omega) (fun p r hp hr => by
      unfold Rt.chs at hp hr
      rw [List.getLast?_map] at hp
      rw [List.head?_map] at hr
      cases ga : az.getLast? with
      | none => rw [ga] at hp; cases hp
      | some p' =>
        cases gb : bs.head? with
        | none => rw [gb] at hr; cases hr
        | some r' =>
          rw [ga] at hp
          rw [gb] at hr
          cases hp
          cases hr
          exact hj p' r' ga gb)
    rw [h_x, h_e2, h_y, ← chs_app, h_e3, h_z] at this
    exact this)
  simp only [List.length_nil] at K0
  rw [h_e0, h_l0] at K0
  rw [h_er, h_x] at K1
  unfold Rt.RetIt at K0 K1
  have HE2 := Lib.hid h_e2
  have HY2 := Lib.hid h_y
  have HE3 := Lib.hid h_e3
  have HZ3 := Lib.hid h_z
  have HN := Lib.hid hn
  have HKL := Lib.hid hk
  have HML := Lib.hid hm
  have HG : Hid (∀ w', Ext w w' → Gm w') := Lib.hid (fun w' he => hg.ext he)
  have H := Lib.hid h
  have H1 := Lib.hid h1
  have H2 := Lib.hid h2
  clear h_e0 h_l0 h_er h_x h_e2 h_y h_e3 h_z h h1 h2 hg hn hk hm
  go_enter Tryz.func6, Tryz.ntmps6
  have X_0 := Lib.hid (Ext.refl w)
  go_wp2_with fail
  with_reducible refine (K0.out w H.out (HG.out _ X_0.out)).mono ?_
  rintro e w1 ⟨⟨A4, c4, ys, hys, rfl, hs4, -, -⟩, hb⟩
  have H_1 := Lib.hid (H.out.ext hb)
  have H1_1 := Lib.hid (H1.out.ext hb)
  have H2_1 := Lib.hid (H2.out.ext hb)
  clear H H1 H2
  have X_1 := Lib.hid (X_0.out.trans hb)
  clear X_0
  have S4_1 := Lib.hid (hs4)
  clear hb hs4
  rcases Classical.em (e0 = 0) with h0 | h0
  · have t0 : (e0 != 0) = false := by rw [h0]; rfl
    have HYS := Lib.hid (hys.trans (L0.out h0))
    have HYL : Hid (ys.length = n) := Lib.hid (by rw [← Rt.its_len, HYS.out, Rt.its_len, HN.out])
    rw [HYL.out]
    clear hys
    subst h0
    go_wp2_with fail
    with_reducible refine (sameItems_eq A4 A c4 c ys xs HYL.out HYS.out w1 S4_1.out H_1.out hl).mono ?_
    rintro e w2 ⟨rfl, hb⟩
    have H_2 := Lib.hid (H_1.out.ext hb)
    have H1_2 := Lib.hid (H1_1.out.ext hb)
    have H2_2 := Lib.hid (H2_1.out.ext hb)
    have S4_2 := Lib.hid (S4_1.out.ext hb)
    clear H_1 H1_1 H2_1 S4_1
    have X_2 := Lib.hid (X_1.out.trans hb)
    clear X_1
    clear hb
    clear S4_2
    clear HYS HYL t0
    go_wp2_with fail
    with_reducible refine (K1.out w2 H_2.out H1_2.out (HG.out _ X_2.out)).mono ?_
    rintro e w3 ⟨⟨A5, c5, us, hus, rfl, hs5, hk5, hm5⟩, hb⟩
    have H_3 := Lib.hid (H_2.out.ext hb)
    have H1_3 := Lib.hid (H1_2.out.ext hb)
    have H2_3 := Lib.hid (H2_2.out.ext hb)
    clear H_2 H1_2 H2_2
    have X_3 := Lib.hid (X_2.out.trans hb)
    clear X_2
    have S5_3 := Lib.hid (hs5)
    clear hb hs5
    have HUS := Lib.hid hus
    have HLU : us.length ≤ 9223372036854775807 := Nat.le_trans hk5 (Nat.le_trans hm5 (by decide))
    clear hus hk5 hm5
    obtain ⟨nu, hnu⟩ : ∃ q, us.length = q := ⟨_, rfl⟩
    rw [hnu] at HLU ⊢
    have HNU := Lib.hid hnu
    clear hnu
    rcases Classical.em (er = 0) with h0 | h0
    · have t0 : (er != 0) = false := by rw [h0]; rfl
      subst h0
      have hK := kitems_any A5 c5 us A2 c2 bs HNU.out HML.out w3 S5_3.out H2_3.out HLU hlm (HG.out _ X_3.out)
      rw [HUS.out, HE2.out, HY2.out] at hK
      unfold Rt.RetIt at hK
      have HK := Lib.hid hK
      clear hK t0
      go_wp2_with fail
      with_reducible refine (HK.out).mono ?_
      rintro e w4 ⟨⟨A6, c6, ps, hps, rfl, hs6, hk6, hm6⟩, hb⟩
      have H_4 := Lib.hid (H_3.out.ext hb)
      have H1_4 := Lib.hid (H1_3.out.ext hb)
      have H2_4 := Lib.hid (H2_3.out.ext hb)
      have S5_4 := Lib.hid (S5_3.out.ext hb)
      clear H_3 H1_3 H2_3 S5_3
      have X_4 := Lib.hid (X_3.out.trans hb)
      clear X_3
      have S6_4 := Lib.hid (hs6)
      clear hb hs6
      have HPS := Lib.hid hps
      have HLP : ps.length ≤ 9223372036854775807 := Nat.le_trans hk6 (Nat.le_trans hm6 (by decide))
      clear hps hk6 hm6 HK
      obtain ⟨np, hnp⟩ : ∃ q, ps.length = q := ⟨_, rfl⟩
      rw [hnp] at HLP ⊢
      have HNP := Lib.hid hnp
      clear hnp
      obtain ⟨W1, hW1⟩ : ∃ q, w4.alloc (.cells #[] 57) = q := ⟨_, rfl⟩
      have EW1 : Ext w4 W1 := by rw [← hW1]; exact (Ext.refl _).alloc _
      have HO := Lib.hid (own_zeroB (w := w4) w4.heap.size 57 18 (Nat.le_refl _))
      rw [hW1] at HO
      have HA1 := Lib.hid (H1_4.out.1.ext EW1)
      have HA2 := Lib.hid (fun w' (he : Ext w4 w') => H2_4.out.1.ext he)
      have hla : (az.map Rt.cch).length = k := by rw [List.length_map, HKL.out]
      have hlb : (bs.map Rt.cch).length = m := by rw [List.length_map, HML.out]
      go_wp2_with (first
        | (rw [hW1])
        | (at_builtin; refine wpList_appS rfl _ _ 43 rfl w4 57 i0 (.agg #[.int .i64 0, .int .i64 0, .int .i64 0, .string ⟨#[]⟩, .slice none 0 0, .slice none 0 0, .int .i64 0, .int .i64 0, .slice none 0 0, .int .i64 0, .string ⟨#[]⟩, .int .i64 0, .int .i64 0, .int .i64 0, .int .i64 0, .slice none 0 0, .int .i64 0, .int .i64 0]) 18 224 Tryz.underlying43 pi0 pz0 pz1 pz2 rfl (by decide) (.slice A8 k c8) k _ rfl hown5 hb5 A2 c2 m (bs.map Rt.cch) hlb rfl (HA2.out _ hb5) (cch_len _) (cch_ones _) (by unfold maxLen; omega) (by omega) ?_; intro A9 c9 w6 hown6 hb6; rw [← List.flatten_append, ← List.map_append] at hown6)
        | (at_builtin; refine wpList_appS rfl _ _ 43 rfl w4 57 i0 (.agg #[.int .i64 0, .int .i64 0, .int .i64 0, .string ⟨#[]⟩, .slice none 0 0, .slice none 0 0, .int .i64 0, .int .i64 0, .slice none 0 0, .int .i64 0, .string ⟨#[]⟩, .int .i64 0, .int .i64 0, .int .i64 0, .int .i64 0, .slice none 0 0, .int .i64 0, .int .i64 0]) 18 224 Tryz.underlying43 pi0 pz0 pz1 pz2 rfl (by decide) (.slice (some ⟨w4.heap.size, 0, none⟩) 0 0) 0 [] rfl HO.out EW1 A1 c1 k (az.map Rt.cch) hla rfl HA1.out (cch_len _) (cch_ones _) (by unfold maxLen; omega) (by omega) ?_; intro A8 c8 w5 hown5 hb5; rw [Nat.zero_add, List.nil_append] at hown5))
      obtain ⟨A9', c9', e9, -, -, hs9⟩ := Sl.of_own (cch_len _) (by rw [List.length_map, List.length_append, HKL.out, HML.out]) hown6
      rw [List.length_map, List.length_append, HKL.out, HML.out] at e9
      cases e9
      clear HO HA1 HA2 hown6 hW1
      have H_5 := Lib.hid (H_4.out.ext hb6)
      have H1_5 := Lib.hid (H1_4.out.ext hb6)
      have H2_5 := Lib.hid (H2_4.out.ext hb6)
      have S5_5 := Lib.hid (S5_4.out.ext hb6)
      have S6_5 := Lib.hid (S6_4.out.ext hb6)
      clear H_4 H1_4 H2_4 S5_4 S6_4
      have X_5 := Lib.hid (X_4.out.trans hb6)
      clear X_4
      have H12 : Hid (Rt.SlCh w6 A9 (az ++ bs)) := Lib.hid ⟨hs9, fun x hx => by
        rcases List.mem_append.1 hx with g | g
        · exact H1_5.out.2 x g
        · exact H2_5.out.2 x g⟩
      clear hs9
      have hK := kitems_any (n := n) (m := k + m) A c xs A9 c9 (az ++ bs) HN.out (by rw [List.length_append, HKL.out, HML.out]) w6 H_5.out H12.out hl (by omega) (HG.out _ X_5.out)
      rw [HE3.out, HZ3.out] at hK
      unfold Rt.RetIt at hK
      have HK := Lib.hid hK
      clear hK
      with_reducible refine (HK.out).mono ?_
      rintro e w7 ⟨⟨A7, c7, qs, hqs, rfl, hs7, hk7, hm7⟩, hb⟩
      have H_6 := Lib.hid (H_5.out.ext hb)
      have H1_6 := Lib.hid (H1_5.out.ext hb)
      have H2_6 := Lib.hid (H2_5.out.ext hb)
      have S5_6 := Lib.hid (S5_5.out.ext hb)
      have S6_6 := Lib.hid (S6_5.out.ext hb)
      clear H_5 H1_5 H2_5 S5_5 S6_5
      have X_6 := Lib.hid (X_5.out.trans hb)
      clear X_5
      have S7_6 := Lib.hid (hs7)
      clear hb hs7
      have HQS := Lib.hid hqs
      have HLQ : qs.length ≤ 9223372036854775807 := Nat.le_trans hk7 (Nat.le_trans hm7 (by decide))
      clear hqs hk7 hm7 HK H12
      obtain ⟨nq, hnq⟩ : ∃ q, qs.length = q := ⟨_, rfl⟩
      rw [hnq] at HLQ ⊢
      have HNQ := Lib.hid hnq
      clear hnq
      rcases Classical.em (50 < k + m) with hb50 | hb50
      · obtain rfl := L1.out (by first | rfl | trivial) hb50
        have t9 : decide ((50 : Int) < ((k + m : Nat) : Int)) = true := decide_eq_true (by omega)
        have t8 : decide ((50 : Int) < (k : Int) + (m : Int)) = true := decide_eq_true (by omega)
        go_wp2_with fail
        with_reducible refine (awake_any w7 (fun w' he => HG.out _ (X_6.out.trans he))).mono ?_
        rintro e w8 ⟨rfl, hb⟩
        have XL := Lib.hid (X_6.out.trans hb)
        clear hb
        go_wp2
        go_ret
        exact ⟨rfl, XL.out⟩
      · have t9 : decide ((50 : Int) < ((k + m : Nat) : Int)) = false := decide_eq_false (by omega)
        have t8 : decide ((50 : Int) < (k : Int) + (m : Int)) = false := decide_eq_false (by omega)
        rcases Nat.eq_zero_or_pos k with hk0 | hk0
        · subst hk0
          have hj : ∀ (p q : Rt.ChL), az.getLast? = some p → bs.head? = some q → p.2 ≤ q.2 := fun p q hp _ => by
            rw [List.eq_nil_of_length_eq_zero HKL.out] at hp
            cases hp
          obtain ⟨rfl, rfl⟩ := L3.out (by first | rfl | trivial) hb50 hj
          have hqp : qs.length = ps.length := by rw [← Rt.its_len, ← Rt.its_len, HQS.out, HPS.out]
          rw [HNP.out, HNQ.out] at hqp
          subst hqp
          have t9 : (e2 == e2) = true := by simp
          go_wp2_with fail
          go_quiet (fail)
          generalize hwq : World.drewN w7 _ = wq
          have hEq : Ext w7 wq := by rw [← hwq]; exact (Ext.refl _).drewN _
          clear hwq
          have H_7 := Lib.hid (H_6.out.ext hEq)
          have H1_7 := Lib.hid (H1_6.out.ext hEq)
          have H2_7 := Lib.hid (H2_6.out.ext hEq)
          have S5_7 := Lib.hid (S5_6.out.ext hEq)
          have S6_7 := Lib.hid (S6_6.out.ext hEq)
          have S7_7 := Lib.hid (S7_6.out.ext hEq)
          clear H_6 H1_6 H2_6 S5_6 S6_6 S7_6
          have X_7 := Lib.hid (X_6.out.trans hEq)
          clear X_6
          clear hEq
          go_wp2_with fail
          with_reducible refine (sameItems_eq A6 A7 c6 c7 ps qs HNP.out (HPS.out.trans HQS.out.symm) _ S6_7.out S7_7.out HLP).mono ?_
          rintro e w8 ⟨rfl, hb⟩
          have H_8 := Lib.hid (H_7.out.ext hb)
          have H1_8 := Lib.hid (H1_7.out.ext hb)
          have H2_8 := Lib.hid (H2_7.out.ext hb)
          have S5_8 := Lib.hid (S5_7.out.ext hb)
          have S6_8 := Lib.hid (S6_7.out.ext hb)
          have S7_8 := Lib.hid (S7_7.out.ext hb)
          clear H_7 H1_7 H2_7 S5_7 S6_7 S7_7
          have X_8 := Lib.hid (X_7.out.trans hb)
          clear X_7
          clear hb
          go_wp2_with fail
          with_reducible refine (awake_any w8 (fun w' he => HG.out _ (X_8.out.trans he))).mono ?_
          rintro e w9 ⟨rfl, hb⟩
          have XL := Lib.hid (X_8.out.trans hb)
          clear hb
          go_wp2
          go_ret
          exact ⟨rfl, XL.out⟩
        · rcases Nat.eq_zero_or_pos m with hm0 | hm0
          · subst hm0
            have hkp : (0 : Int) < (k : Int) := by omega
            have hj : ∀ (p q : Rt.ChL), az.getLast? = some p → bs.head? = some q → p.2 ≤ q.2 := fun p q _ hq => by
              rw [List.eq_nil_of_length_eq_zero HML.out] at hq
              cases hq
            obtain ⟨rfl, rfl⟩ := L3.out (by first | rfl | trivial) hb50 hj
            have hqp : qs.length = ps.length := by rw [← Rt.its_len, ← Rt.its_len, HQS.out, HPS.out]
            rw [HNP.out, HNQ.out] at hqp
            subst hqp
            have t9 : (e2 == e2) = true := by simp
            go_wp2_with fail
            go_quiet (fail)
            generalize hwq : World.drewN w7 _ = wq
            have hEq : Ext w7 wq := by rw [← hwq]; exact (Ext.refl _).drewN _
            clear hwq
            have H_7 := Lib.hid (H_6.out.ext hEq)
            have H1_7 := Lib.hid (H1_6.out.ext hEq)
            have H2_7 := Lib.hid (H2_6.out.ext hEq)
            have S5_7 := Lib.hid (S5_6.out.ext hEq)
            have S6_7 := Lib.hid (S6_6.out.ext hEq)
            have S7_7 := Lib.hid (S7_6.out.ext hEq)
            clear H_6 H1_6 H2_6 S5_6 S6_6 S7_6
            have X_7 := Lib.hid (X_6.out.trans hEq)
            clear X_6
            clear hEq
            go_wp2_with fail
            with_reducible refine (sameItems_eq A6 A7 c6 c7 ps qs HNP.out (HPS.out.trans HQS.out.symm) _ S6_7.out S7_7.out HLP).mono ?_
            rintro e w8 ⟨rfl, hb⟩
            have H_8 := Lib.hid (H_7.out.ext hb)
            have H1_8 := Lib.hid (H1_7.out.ext hb)
            have H2_8 := Lib.hid (H2_7.out.ext hb)
            have S5_8 := Lib.hid (S5_7.out.ext hb)
            have S6_8 := Lib.hid (S6_7.out.ext hb)
            have S7_8 := Lib.hid (S7_7.out.ext hb)
            clear H_7 H1_7 H2_7 S5_7 S6_7 S7_7
            have X_8 := Lib.hid (X_7.out.trans hb)
            clear X_7
            clear hb
            go_wp2_with fail
            with_reducible refine (awake_any w8 (fun w' he => HG.out _ (X_8.out.trans he))).mono ?_
            rintro e w9 ⟨rfl, hb⟩
            have XL := Lib.hid (X_8.out.trans hb)
            clear hb
            go_wp2
            go_ret
            exact ⟨rfl, XL.out⟩
          · obtain ⟨j, rfl⟩ : ∃ j, k = j + 1 := ⟨k - 1, by omega⟩
            obtain ⟨p, hp⟩ : ∃ p, az[j]? = some p := ⟨az[j]'(by rw [HKL.out]; omega), List.getElem?_eq_getElem _⟩
            obtain ⟨q, hq⟩ : ∃ q, bs[0]? = some q := ⟨bs[0]'(by rw [HML.out]; omega), List.getElem?_eq_getElem _⟩
            have hp' : az.getLast? = some p := by rw [List.getLast?_eq_getElem?, HKL.out]; exact hp
            have hq' : bs.head? = some q := by rw [List.head?_eq_getElem?]; exact hq
            obtain ⟨ba, oa, rfl, -, ra, -⟩ := H1_6.out.at_ hp
            obtain ⟨bb, ob, rfl, -, rb, -⟩ := H2_6.out.at_ hq
            have ca := Rt.SlCh.time ra
            have cb0 := Rt.SlCh.time rb
            have cb : w7.cell? ⟨bb, ob + 17, none⟩ = some (.int .i64 q.2) := by rw [Nat.zero_mul, Nat.add_zero] at cb0; exact cb0
            have hwj : IntKind.i64.wrap (j : Int) = (j : Int) := IntWalk.i64_in _ (by omega)
            have kj0 : (0 : Int) ≤ (j : Int) := by omega
            have kj1 : (j : Int) < (j : Int) + 1 := by omega
            have kj2 : (0 : Int) < (j : Int) + 1 := by omega
            have km : (0 : Int) < (m : Int) := by omega
            clear hp hq ra rb cb0
            rcases Classical.em (q.2 < p.2) with hf | hf
            · obtain rfl := L2.out (by first | rfl | trivial) hb50 p q hp' hq' hf
              have t7 : decide (q.2 < p.2) = true := decide_eq_true hf
              go_wp2_with fail
              go_quiet (fail)
              generalize hwq : World.drewN w7 _ = wq
              have hEq : Ext w7 wq := by rw [← hwq]; exact (Ext.refl _).drewN _
              clear hwq
              have H_7 := Lib.hid (H_6.out.ext hEq)
              have H1_7 := Lib.hid (H1_6.out.ext hEq)
              have H2_7 := Lib.hid (H2_6.out.ext hEq)
              have S5_7 := Lib.hid (S5_6.out.ext hEq)
              have S6_7 := Lib.hid (S6_6.out.ext hEq)
              have S7_7 := Lib.hid (S7_6.out.ext hEq)
              clear H_6 H1_6 H2_6 S5_6 S6_6 S7_6
              have X_7 := Lib.hid (X_6.out.trans hEq)
              clear X_6
              clear hEq
              go_wp2_with fail
              with_reducible refine (awake_any wq (fun w' he => HG.out _ (X_7.out.trans he))).mono ?_
              rintro e w8 ⟨rfl, hb⟩
              have XL := Lib.hid (X_7.out.trans hb)
              clear hb
              go_wp2
              go_ret
              exact ⟨rfl, XL.out⟩
            · have t7 : decide (q.2 < p.2) = false := decide_eq_false hf
              have hj : ∀ (p q : Rt.ChL), az.getLast? = some p → bs.head? = some q → p.2 ≤ q.2 := fun p1 q1 h1 h2 => by
                rw [hp'] at h1
                rw [hq'] at h2
                cases h1
                cases h2
                omega
              obtain ⟨rfl, rfl⟩ := L3.out (by first | rfl | trivial) hb50 hj
              have hqp : qs.length = ps.length := by rw [← Rt.its_len, ← Rt.its_len, HQS.out, HPS.out]
              rw [HNP.out, HNQ.out] at hqp
              subst hqp
              have t9 : (e2 == e2) = true := by simp
              go_wp2_with fail
              go_quiet (fail)
              generalize hwq : World.drewN w7 _ = wq
              have hEq : Ext w7 wq := by rw [← hwq]; exact (Ext.refl _).drewN _
              clear hwq
              have H_7 := Lib.hid (H_6.out.ext hEq)
              have H1_7 := Lib.hid (H1_6.out.ext hEq)
              have H2_7 := Lib.hid (H2_6.out.ext hEq)
              have S5_7 := Lib.hid (S5_6.out.ext hEq)
              have S6_7 := Lib.hid (S6_6.out.ext hEq)
              have S7_7 := Lib.hid (S7_6.out.ext hEq)
              clear H_6 H1_6 H2_6 S5_6 S6_6 S7_6
              have X_7 := Lib.hid (X_6.out.trans hEq)
              clear X_6
              clear hEq
              go_wp2_with fail
              with_reducible refine (sameItems_eq A6 A7 c6 c7 ps qs HNP.out (HPS.out.trans HQS.out.symm) _ S6_7.out S7_7.out HLP).mono ?_
              rintro e w8 ⟨rfl, hb⟩
              have H_8 := Lib.hid (H_7.out.ext hb)
              have H1_8 := Lib.hid (H1_7.out.ext hb)
              have H2_8 := Lib.hid (H2_7.out.ext hb)
              have S5_8 := Lib.hid (S5_7.out.ext hb)
              have S6_8 := Lib.hid (S6_7.out.ext hb)
              have S7_8 := Lib.hid (S7_7.out.ext hb)
              clear H_7 H1_7 H2_7 S5_7 S6_7 S7_7
              have X_8 := Lib.hid (X_7.out.trans hb)
              clear X_7
              clear hb
              go_wp2_with fail
              with_reducible refine (awake_any w8 (fun w' he => HG.out _ (X_8.out.trans he))).mono ?_
              rintro e w9 ⟨rfl, hb⟩
              have XL := Lib.hid (X_8.out.trans hb)
              clear hb
              go_wp2
              go_ret
              exact ⟨rfl, XL.out⟩
    · have t0 : (er != 0) = true := by rw [bne_iff_ne]; exact h0
      go_wp2_with fail
      with_reducible refine (awake_any w3 (fun w' he => HG.out _ (X_3.out.trans he))).mono ?_
      rintro e w4 ⟨rfl, hb⟩
      have XL := Lib.hid (X_3.out.trans hb)
      clear hb
      go_wp2
      go_ret
      exact ⟨rfl, XL.out⟩
  · have t0 : (e0 != 0) = true := by rw [bne_iff_ne]; exact h0
    obtain ⟨ny, hny⟩ : ∃ q, ys.length = q := ⟨_, rfl⟩
    rw [hny]
    go_wp2_with fail
    with_reducible refine (awake_any w1 (fun w' he => HG.out _ (X_1.out.trans he))).mono ?_
    rintro e w2 ⟨rfl, hb⟩
    have XL := Lib.hid (X_1.out.trans hb)
    clear hb
    go_wp2
    go_ret
    exact ⟨rfl, XL.out⟩
theorem rescoreTwice_laid (os : Os) : laidMet Tryz.prog Rows.rescoreTwiceUptoRow.laid ((laidW os).forCall (fun _ _ => 0) ⟨#[], #[.slice none 0 0, .slice none 0 0, .slice none 0 0], []⟩).memory :=
  laidMet_of_run' 8 (by kernel_rfl) (by kernel_rfl)
theorem rescoreTwice_reads (os : Os) {H : Type} (enc : TypeId × Value → H) : ∃ places, DataW.whole enc Tryz.prog ((laidW os).forCall (fun _ _ => 0) ⟨#[], #[.slice none 0 0, .slice none 0 0, .slice none 0 0], []⟩).memory Tryz.f6.params.toList Rows.rescoreTwiceSpec.vars false (#[.slice none 0 0, .slice none 0 0, .slice none 0 0] : Array Value).toList 8 = some ([.nil, .nil, .nil], [], places) :=
  ⟨[], by kernel_rfl⟩
set_option maxRecDepth 100000 in
theorem rescoreTwice_lifted (os : Os) (started : os.Started) (H : Type) (enc : TypeId × Value → H) (F : Stop.Interp) :
    ReturnsInHanded {} Tryz.checked os 6 .any ((Rows.OpenSpec.upto Rows.rescoreTwiceSpec).preRow enc Tryz.prog Tryz.f6 Rows.rescoreTwiceUptoRow.domain false Rows.rescoreTwiceUptoRow.laid) (((Rows.OpenSpec.upto Rows.rescoreTwiceSpec).at F).post enc Tryz.prog Tryz.f6 false true false false) := by
  obtain ⟨places, hx⟩ := rescoreTwice_reads os enc
  refine returnsInHanded_of_row (C := Tryz.checked) (s := (Rows.OpenSpec.upto Rows.rescoreTwiceSpec)) Tryz.own started (by kernel_rfl) Tryz.func6
    (witness_row_at (enc := enc) (C := Tryz.checked) false (laidW os) #[.slice none 0 0, .slice none 0 0, .slice none 0 0] rfl (by kernel_rfl) (by kernel_rfl) (by kernel_rfl)
      (OpenSpec.preRow_of_cond 8 hx (by kernel_rfl) (fun k hk => by cases hk; kernel_rfl) (by kernel_rfl) (rescoreTwice_laid os))) ?_
  intro W base args ds gs before hval0 hW _ hcond hsz0 hL hsh _
  have hval : ∀ (j : Nat) t v, Tryz.f6.params[j]? = some t → args[j]? = some v → Value.okWide Tryz.prog W .any base t v := hval0
  have hW' : DataW.Whole enc Tryz.prog Tryz.f6.params.toList Rows.rescoreTwiceSpec.vars false W args.toList ds gs before := hW
  have hW2 := hW'
  obtain ⟨p, q, hA0, hV, rfl, hfz, hnd⟩ := hW2
  have hA : DataW.TrodAll enc Tryz.prog W 0 (fun _ => true) true Tryz.f6.params.toList args.toList ds p := hA0
  rw [Tryz.params6] at hA hval
  obtain ⟨v0, vs0, d0, ds0, p0, q0, hargs, rfl, rfl, h0, r0⟩ := trodAll_cons hA
  obtain ⟨v1, vs1, d1, ds1, p1, q1, rfl, rfl, rfl, h1, r1⟩ := trodAll_cons r0
  obtain ⟨v2, vs2, d2, ds2, p2, q2, rfl, rfl, rfl, h2, r2⟩ := trodAll_cons r1
  obtain ⟨rfl, rfl, rfl⟩ := trodAll_nil r2
  obtain rfl : args = #[v0, v1, v2] := by cases args; simp_all
  obtain ⟨rfl, rfl⟩ := trodVars_none hV
  obtain ⟨mx, hmx⟩ := Go.Proofs.cell_of_shapedOpen_int (g := 0) (zero := #[.int .i64 0]) (t := 3) hsh (by decide +kernel) (by kernel_rfl) (by decide) (by kernel_rfl) (by kernel_rfl) Tryz.underlying3
  have hsz : (DataW.weightsEach Tryz.prog (Tryz.f6.params.toList ++ Rows.rescoreTwiceSpec.plain.varTypes Tryz.prog) _).all (· ≤ reachBytes) = true := hsz0
  rw [Tryz.params6] at hsz
  obtain ⟨A_0, c_0, l_0, rfl, s_0, k_0, -, y_0⟩ := items_open (hval 0 22 v0 rfl rfl) h0 (light_arg hsz (j := 0) rfl rfl)
  have b_0 : l_0.length ≤ 9223372036854775807 := by omega
  obtain ⟨A_1, c_1, l_1, rfl, s_1, k_1, -, y_1⟩ := changes_open (hval 1 43 v1 rfl rfl) h1 (light_arg hsz (j := 1) rfl rfl)
  have b_1 : l_1.length ≤ 9223372036854775807 := by omega
  obtain ⟨A_2, c_2, l_2, rfl, s_2, k_2, -, y_2⟩ := changes_open (hval 2 43 v2 rfl rfl) h2 (light_arg hsz (j := 2) rfl rfl)
  have b_2 : l_2.length ≤ 9223372036854775807 := by omega
  obtain ⟨u_0, u_1, u_2⟩ := bulk_three (hcond _ rfl)
  have b_1 : l_1.length ≤ 1048576 := Nat.le_trans (bulk_slice Tryz.underlying43 h1) u_1
  have b_2 : l_2.length ≤ 1048576 := Nat.le_trans (bulk_slice Tryz.underlying43 h2) u_2
  refine (rescoreTwice_walk A_0 c_0 l_0 A_1 c_1 l_1 A_2 c_2 l_2 rfl rfl rfl W s_0 s_1 s_2 b_0 b_1 b_2 ⟨mx, hmx⟩).mono fun e W' ⟨he, hw⟩ => ?_
  subst he
  exact ⟨_, rfl, law_post (s := Rows.rescoreTwiceSpec) hW' Tryz.laidOut (by kernel_rfl) rfl (by rfl) rfl Tryz.underlying4 hw⟩

theorem rescoreTwice_holds : Rows.RescoreTwiceUptoSaid :=
  OpenClaim.holds_of_cond 6 Tryz.f6 rfl rfl rfl rfl rfl rfl rfl ⟨rfl, rfl, rfl, rfl, rfl⟩ rfl rfl rfl rfl rfl (by kernel_rfl) Tryz.func6 (by kernel_rfl)
    (of_decide_eq_true (by kernel_rfl)) (by unfold Func.isWrapper; first | (rw [if_pos (by decide +kernel)]; kernel_rfl) | (rw [if_neg (by decide +kernel)]; exact ⟨rfl, rfl⟩))
    (fun os started H enc _ F => by rw [OpenClaim.pre_eq_preRow]; exact rescoreTwice_lifted os started H enc F)
theorem rescoreTwice_card : Rows.RescoreTwiceUptoCardSaid :=
  Claim7.holds_tied_plain_at .later [] _ _ _ _
    rescoreTwice_holds (fun _ h => by cases h) (by kernel_rfl) (fun _ h => by cases h) rescoreTwiceUpto_row_tie rfl ⟨rfl, rfl⟩ (by kernel_rfl) rfl
    (fun f fn hf hfn => by
      obtain rfl : f = 6 := Option.some.inj ((show Tryz.prog.funcNamed Rows.rescoreTwiceUptoRow.func = some 6 by kernel_rfl).symm.trans hf) |>.symm
      obtain rfl : fn = Tryz.f6 := (Option.some.inj (Tryz.func6.symm.trans hfn)).symm
      exact ⟨by kernel_rfl, fun j t ht => by
        rw [Tryz.params6] at ht
        have hm : t ∈ [22, 43] := by simpa using Array.mem_of_getElem? ht
        have hall : ([22, 43].all fun u => !Tryz.prog.wantsStandIn u) = true := by kernel_rfl
        exact (show Tryz.prog.wantsStandIn t = false by simpa using List.all_eq_true.1 hall t hm)⟩)
    (by kernel_rfl)
#print axioms rescoreTwice_card
end Go.Proofs.YtgaepmddbjdhfaaGreatDoor
