/- IncidentMore: for every input the law returns true. Conditions: the table of powers lies as the row says. -/
import Derived.Test.YtcpapnnghclbmaaDoorInV
import Derived.ChangeMaps5
namespace Go.Proofs.YtcpapnnghclbmaaDoor
open Go.ChangeShapes Go.WideShapes Go.ChangeAt Go.RowKit Go.ChangeMaps

set_option maxRecDepth 100000 in
set_option maxHeartbeats 12800000 in
theorem incidentMore_walk (A : Option Addr) (c : Nat) (ps : List In.Inc) (x : In.Inc) (most : Int) (w : World) (h1 : (⟨A, c, ps⟩ : NL).In w) (hc32 : c * 32 ≤ 140737488351232) (hx : In.ok64 x) (ht : Tab w) :
    Calls Tryd.prog 9 #[.slice A ps.length c, In.agg x, .int .i64 most] w fun e w' => e = .returned (.bool true) ∧ Ext w w' := by
  unfold In.agg
  have hnc : ps.length ≤ c := h1.2.1
  have HA := Lib.hid h1
  have HT := Lib.hid ht
  have HX := Lib.hid hx
  clear h1 ht hx
  obtain ⟨n, hn⟩ : ∃ n, ps.length = n := ⟨_, rfl⟩
  rw [hn] at hnc ⊢
  have HN := Lib.hid hn
  clear hn
  obtain ⟨W1, hW1⟩ : ∃ W1, W1 = w.alloc (.cells #[.int .i64 x.1, .int .i64 x.2.1, .int .i64 x.2.2.1, .int .i64 x.2.2.2] 23) := ⟨_, rfl⟩
  have e1 : Ext w W1 := by rw [hW1]; exact (Ext.refl _).alloc _
  have hs1 : W1.heap.size = w.heap.size + 1 := by rw [hW1]; simp
  have hbox : BoxN W1 w.heap.size x := by rw [hW1]; unfold BoxN; simp
  have HBOX := Lib.hid hbox
  clear hbox
  obtain ⟨i0, hi0, hz0, hz1, hz2⟩ := info_parts Tryd.infoInc
  go_enter Tryd.func9, Tryd.ntmps9
  go_upto_region 1 with fail
  rw [← hW1]
  go_cut [7] from 20 to 25 (fun p wx => MCut W1.heap.size x n ps W1 p wx)
  case first =>
    refine region_tb (by kernel_rfl) (by decide +kernel) (ME w.heap.size A n c) ⟨rfl, rfl, rfl⟩ 7 MD MC (MR W1.heap.size x A n c ps) W1 (Ext.refl _) (fun i h1 h2 => by
      have h1' : 7 ≤ i := h1
      omega) ?_ ?_
    · intro T dd l U wz i o hE ho hl hd hT
      obtain ⟨t0, tp, t4⟩ := hE
      obtain ⟨b0, b1, b2, b3⟩ := HBOX.out
      have d0 := hT.ext.keep b0
      have d1 := hT.ext.keep b1
      have d2 := hT.ext.keep b2
      have d3 := hT.ext.keep b3
      match i, ho, hl, hd with
      | 0, ho, hl, hd =>
        obtain rfl := Option.some.inj ho
        refine tb_ext (v := .slice (some ⟨wz.heap.size, 0, none⟩) 0 0) (w' := wz.alloc (.cells #[] 23)) MR.ext hT ho hd rfl rfl (by decide) (by decide) ?_ ((Ext.refl _).alloc _) ⟨wz.heap.size, rfl, own_zeroB _ _ _ hT.ext.size⟩
        generalize Act.eval ⟨over T U, dd⟩ = ev at *
        simp [execOp, go_sem]
      | 1, ho, hl, hd =>
        obtain rfl := Option.some.inj ho
        have v6 := eval_old (d := dd) (hT.out 0 (by decide)) (by omega) tp
        refine tb_pure (v := .slice A n c) hT ho hd rfl rfl (by decide) (by decide) ?_ rfl
        generalize Act.eval ⟨over T U, dd⟩ = ev at *
        simp [execOp, v6, go_sem]
      | 2, ho, hl, hd =>
        obtain rfl := Option.some.inj ho
        obtain ⟨b, f0, ho0⟩ := hT.facts 0 (by decide) (dep hd 0 (by kernel_rfl)) (fun c e => by injection e with e; subst e; exact hl)
        have f1 := hT.facts 1 (by decide) (dep hd 1 (by kernel_rfl)) (fun c e => by cases e)
        have hlen : (ps.map In.cells).length = n := by rw [List.length_map, HN.out]
        obtain ⟨v', w', hrun, hown, hgr, -⟩ := run_append_sl (P := Tryd.prog) wz W1.heap.size 24 24 23 i0 (.agg #[.int .i64 0, .int .i64 0, .int .i64 0, .int .i64 0]) 4 32 Tryd.underlying24 hi0 hz0 hz1 hz2 rfl (by decide) (.slice (some ⟨b, 0, none⟩) 0 0) 0 [] ho0 A c (ps.map In.cells) (HA.out.1.ext (e1.trans hT.ext)) (inc_cells ps).1 (inc_cells ps).2 (by rw [hlen]; unfold maxLen; omega) (by rw [hlen]; omega) hT.ext.size
        rw [hlen, Nat.zero_add, List.nil_append] at hown
        rw [hlen] at hrun
        have v0 := eval_new (t := T) (d := dd) f0 (by show 20 < T.size; omega)
        have v1 := eval_new (t := T) (d := dd) f1 (by show 21 < T.size; omega)
        refine tb_yield (v := v') (w' := w') hT ho hd rfl rfl (by decide) (by decide) (exec_append rfl v0 v1 hrun) (hT.ext.grown hgr (fun q hq => own_ge ho0 q hq)) ⟨v', rfl, hown⟩ ?_
        intro j hj hji hlj hcj hR
        match j, hj, hR with
        | 0, _, _ => exact absurd rfl (hcj 2 rfl).1
        | 1, _, hR => exact hR
        | 2, _, _ => exact absurd rfl hji
        | 3, _, hR => exact hR
        | 4, _, ⟨b4, g1, g2⟩ => exact ⟨b4, g1, one_other g2 ho0 hgr⟩
        | 5, _, _ => exact absurd (dep (hT.shut 5 _ rfl hlj) 2 (by kernel_rfl)) (by rw [hl]; decide)
        | 6, _, _ => exact absurd (dep (hT.shut 6 _ rfl hlj) 2 (by kernel_rfl)) (by rw [hl]; decide)
        | j + 7, hj, _ => exact absurd hj (by omega)
      | 3, ho, hl, hd =>
        obtain rfl := Option.some.inj ho
        have v3 := eval_old (d := dd) (hT.out 4 (by decide)) (by omega) t4
        refine tb_pure (v := .agg #[.int .i64 x.1, .int .i64 x.2.1, .int .i64 x.2.2.1, .int .i64 x.2.2.2]) hT ho hd rfl rfl (by decide) (by decide) ?_ rfl
        generalize Act.eval ⟨over T U, dd⟩ = ev at *
        simp [execOp, v3, go_sem, d0, d1, d2, d3]
      | 4, ho, hl, hd =>
        obtain rfl := Option.some.inj ho
        have f1 := hT.facts 3 (by decide) (dep hd 3 (by kernel_rfl)) (fun c e => by cases e)
        have v1 : Act.eval ⟨over T U, dd⟩ (.tmp 23) = _ := eval_new (t := T) (d := dd) f1 (by show 23 < T.size; omega)
        refine tb_ext (v := .slice (some ⟨wz.heap.size, 0, none⟩) 1 1) (w' := wz.alloc (.cells #[.int .i64 x.1, .int .i64 x.2.1, .int .i64 x.2.2.1, .int .i64 x.2.2.2] 23)) MR.ext hT ho hd rfl rfl (by decide) (by decide) ?_ ((Ext.refl _).alloc _) ⟨wz.heap.size, rfl, slN_one _ _ _⟩
        generalize Act.eval ⟨over T U, dd⟩ = ev at *
        simp [execOp, v1, go_sem]
      | 5, ho, hl, hd =>
        obtain rfl := Option.some.inj ho
        have l2 := dep hd 2 (by kernel_rfl)
        obtain ⟨v2, f2, ho2⟩ := hT.facts 2 (by decide) l2 (fun c e => by injection e with e; subst e; exact hl)
        obtain ⟨b, f4, hs4⟩ := hT.facts 4 (by decide) (dep hd 4 (by kernel_rfl)) (fun c e => by injection e with e; subst e; exact hl)
        obtain ⟨v', w', hrun, hown, hgr, -⟩ := run_append_sl (P := Tryd.prog) wz W1.heap.size 24 24 23 i0 (.agg #[.int .i64 0, .int .i64 0, .int .i64 0, .int .i64 0]) 4 32 Tryd.underlying24 hi0 hz0 hz1 hz2 rfl (by decide) v2 n _ ho2 (some ⟨b, 0, none⟩) 1 ([x].map In.cells) hs4 (inc_cells [x]).1 (inc_cells [x]).2 (by simp only [List.length_map, List.length_singleton]; unfold maxLen; omega) (by simp only [List.length_map, List.length_singleton]; omega) hT.ext.size
        rw [inc_flat] at hown
        have v2' := eval_new (t := T) (d := dd) f2 (by show 22 < T.size; omega)
        have v4' := eval_new (t := T) (d := dd) f4 (by show 24 < T.size; omega)
        refine tb_yield (v := v') (w' := w') hT ho hd rfl rfl (by decide) (by decide) (exec_append rfl v2' v4' hrun) (hT.ext.grown hgr (fun q hq => own_ge ho2 q hq)) ⟨v', rfl, hown⟩ ?_
        intro j hj hji hlj hcj hR
        match j, hj, hR with
        | 0, _, _ => exact absurd l2 (by rw [(hcj 2 rfl).2]; decide)
        | 1, _, hR => exact hR
        | 2, _, _ => exact absurd rfl (hcj 5 rfl).1
        | 3, _, hR => exact hR
        | 4, _, _ => exact absurd rfl (hcj 5 rfl).1
        | 5, _, _ => exact absurd rfl hji
        | 6, _, _ => exact absurd (dep (hT.shut 6 _ rfl hlj) 5 (by kernel_rfl)) (by rw [hl]; decide)
        | j + 7, hj, _ => exact absurd hj (by omega)
      | 6, ho, hl, hd =>
        obtain rfl := Option.some.inj ho
        obtain ⟨v7, f7, ho7⟩ := hT.facts 5 (by decide) (dep hd 5 (by kernel_rfl)) (fun c e => by cases e)
        have v7' : Act.eval ⟨over T U, dd⟩ (.tmp 25) = _ := eval_new (t := T) (d := dd) f7 (by show 25 < T.size; omega)
        refine tb_pure (v := v7) hT ho hd rfl rfl (by decide) (by decide) ?_ ⟨v7, rfl, ho7⟩
        generalize Act.eval ⟨over T U, dd⟩ = ev at *
        simp [execOp, v7', go_sem]
      | i + 7, ho, _, _ => exact absurd ho (by simp)
    · intro U wz hex hout hfin
      obtain ⟨v8, f8, ho8⟩ := hfin 6 (by decide) rfl
      rw [over_list]
      simp (disch := decide) only [overL, Nat.reduceAdd, hout, Option.getD_none]
      have f8' : U 7 = some v8 := f8
      rw [f8']
      simp only [Option.getD_some]
      go_wp2_with fail
      go_meet
      exact ⟨v8, rfl, ho8, hex⟩
  case rest =>
    obtain ⟨v8, rfl, ho8, hex⟩ := hcut
    have hlen : ((ps ++ [x]).map In.cells).length = n + 1 := by rw [List.length_map, List.length_append, HN.out]; rfl
    obtain ⟨M, mc, rfl, hM1, hM2, hM3⟩ := Sl.of_own (k := 4) (inc_cells _).1 hlen ho8
    rw [hlen] at hM1 ⊢
    have HM : Hid ((⟨M, mc, ps ++ [x]⟩ : NL).In wc) := Lib.hid ⟨hM3, by rw [List.length_append, HN.out]; exact hM1, hM2, fun q hq => by
      rcases List.mem_append.1 hq with g | g
      · exact HA.out.2.2.2 q g
      · simp at g; rw [g]; exact HX.out⟩
    have HN1 : Hid ((ps ++ [x]).length = n + 1) := Lib.hid (by rw [List.length_append, HN.out]; rfl)
    clear hM3 ho8 hlen hM1 hM2
    obtain ⟨n1, hn1⟩ : ∃ n1, n + 1 = n1 := ⟨_, rfl⟩
    rw [hn1] at HN1 ⊢
    clear hn1
    have x0 := e1.trans hex
    have HAc := Lib.hid (HA.out.ext x0)
    have HBC : Hid (BoxN wc w.heap.size x) := Lib.hid (by
      obtain ⟨b0, b1, b2, b3⟩ := HBOX.out
      exact ⟨hex.keep b0, hex.keep b1, hex.keep b2, hex.keep b3⟩)
    have hsc := hex.size
    obtain ⟨er1, her1⟩ : ∃ v, In.chk ps = v := ⟨_, rfl⟩
    obtain ⟨er2, her2⟩ : ∃ v, In.chk (ps ++ [x]) = v := ⟨_, rfl⟩
    obtain ⟨a, ha⟩ : ∃ v, In.lostV ps most = v := ⟨_, rfl⟩
    obtain ⟨b, hb⟩ : ∃ v, In.lostV (ps ++ [x]) most = v := ⟨_, rfl⟩
    have HE1 := Lib.hid her1
    have HE2 := Lib.hid her2
    have Ha := Lib.hid ha
    have Hb := Lib.hid hb
    clear her1 her2 ha hb
    go_wp2_with fail
    with_reducible refine (lost_to A c ps most HN.out Ha.out HE1.out _ HAc.out).mono ?_
    rintro e w1 ⟨rfl, hb1⟩
    have HM1 := Lib.hid (HM.out.ext hb1)
    go_wp2_with fail
    with_reducible refine (lost_to M mc (ps ++ [x]) most HN1.out Hb.out HE2.out _ HM1.out).mono ?_
    rintro e w2 ⟨rfl, hb2⟩
    have y2 := hb1.trans hb2
    have HA2 := Lib.hid (HAc.out.ext y2)
    have HM2 := Lib.hid (HM.out.ext y2)
    have HT2 := Lib.hid (HT.out.ext (x0.trans y2))
    by_cases z2 : er2 = 0
    · obtain ⟨k1, k2⟩ := In.chk_more (l := ps) (x := x) (by rw [HE2.out, z2])
      have z1 : er1 = 0 := by rw [← HE1.out]; exact k1
      have HZ2 : Hid (In.chk (ps ++ [x]) = 0) := Lib.hid (by rw [HE2.out, z2])
      have z1' : (er1 != 0) = false := by rw [z1]; rfl
      have z2' : (er2 != 0) = false := by rw [z2]; rfl
      clear z1 z2 k1
      obtain ⟨la, lb, lc⟩ := In.lost_more most HZ2.out
      obtain ⟨wa, wb⟩ := In.worst_more HZ2.out
      obtain ⟨ha1, ha2⟩ := In.hold_more HZ2.out
      obtain ⟨cc, hcc⟩ : ∃ v, In.worstV ps = v := ⟨_, rfl⟩
      obtain ⟨dd, hdd⟩ : ∃ v, In.worstV (ps ++ [x]) = v := ⟨_, rfl⟩
      obtain ⟨hh, hhh⟩ : ∃ v, In.holdV ps = v := ⟨_, rfl⟩
      obtain ⟨gg, hgg⟩ : ∃ v, In.holdV (ps ++ [x]) = v := ⟨_, rfl⟩
      rw [Ha.out, Hb.out] at la
      rw [Hb.out] at lb lc
      rw [hcc, hdd] at wa
      rw [hdd] at wb
      rw [hhh, hgg] at ha1
      rw [hgg] at ha2
      have HCC := Lib.hid hcc
      have HDD := Lib.hid hdd
      have HHH := Lib.hid hhh
      have HGG := Lib.hid hgg
      have HH1 := Lib.hid ha1
      have HH2 := Lib.hid ha2
      clear hcc hdd hhh hgg ha1 ha2 k2
      have q1 : ¬ b < a := by omega
      have q2 : ¬ dd < cc := by omega
      have q3 : ¬ dd < x.2.2.2 := by omega
      have q4 : ¬ b < 0 := by omega
      have q5 : ¬ max most 0 < b := by omega
      clear la lb lc wa wb
      go_wp2_with fail
      with_reducible refine (worst_to A c ps HN.out HCC.out HE1.out _ HA2.out).mono ?_
      rintro e w3 ⟨rfl, hb3⟩
      have HM3 := Lib.hid (HM2.out.ext hb3)
      go_wp2_with fail
      with_reducible refine (worst_to M mc (ps ++ [x]) HN1.out HDD.out HE2.out _ HM3.out).mono ?_
      rintro e w4 ⟨rfl, hb4⟩
      have y4 := (y2.trans hb3).trans hb4
      obtain ⟨c0, c1, c2, c3⟩ := HBC.out
      have d0 := y4.keep c0
      have d3 := y4.keep c3
      have HA4 := Lib.hid (HAc.out.ext y4)
      have HM4 := Lib.hid (HM.out.ext y4)
      clear hb1 hb2 hb3 hb4 c0 c1 c2 c3
      go_wp2_with fail
      with_reducible refine (hold_to A c ps HN.out HHH.out HE1.out _ HA4.out).mono ?_
      rintro e w5 ⟨rfl, hb5⟩
      have HM5 := Lib.hid (HM4.out.ext hb5)
      have d0 := hb5.keep d0
      go_wp2_with fail
      with_reducible refine (hold_to M mc (ps ++ [x]) HN1.out HGG.out HE2.out _ HM5.out).mono ?_
      rintro e w6 ⟨rfl, hb6⟩
      have d0 := hb6.keep d0
      have y6 := (y4.trans hb5).trans hb6
      have HA6 := Lib.hid (HAc.out.ext y6)
      have HM6 := Lib.hid (HM.out.ext y6)
      have HXS : Hid (In.countV ps = In.countL ps ∧ In.countV (ps ++ [x]) = In.countL (ps ++ [x])) := Lib.hid (by
        obtain ⟨k1, -⟩ := In.chk_more HZ2.out
        unfold In.countV
        rw [if_neg (by rw [k1]; simp), if_neg (by rw [HZ2.out]; simp)]
        exact ⟨rfl, rfl⟩)
      obtain ⟨xs, hxs⟩ : ∃ v, In.countV ps = v := ⟨_, rfl⟩
      obtain ⟨ys, hys⟩ : ∃ v, In.countV (ps ++ [x]) = v := ⟨_, rfl⟩
      have HX6 : Hid (xs.length = 6) := Lib.hid (by rw [← hxs, HXS.out.1]; rfl)
      have HY6 : Hid (ys.length = 6) := Lib.hid (by rw [← hys, HXS.out.2]; rfl)
      have HPS : Hid (ps.length ≤ 300) := Lib.hid (by
        obtain ⟨k1, -⟩ := In.chk_more HZ2.out
        exact (In.chk_zero.1 k1).1)
      have HAT : Hid (∀ j : Nat, j < 6 → xs[j]? = some (In.cnt ps j) ∧ ys[j]? = some (In.cnt ps j + if x.1 = (j : Int) + 1 then 1 else 0) ∧ 0 ≤ In.cnt ps j ∧ In.cnt ps j ≤ 300) := Lib.hid (fun j hj => by
        rw [← hxs, ← hys, HXS.out.1, HXS.out.2, In.count_at j hj, In.count_at j hj, In.cnt_more]
        have := In.cnt_bd2 ps j
        have := HPS.out
        exact ⟨rfl, rfl, by omega, by omega⟩)
      have HXX := Lib.hid hxs
      have HYY := Lib.hid hys
      clear hxs hys hb5 hb6
      cases gg with
      | true =>
        by_cases hx5 : x.1 = 5
        · have hx5' : (x.1 == 5) = true := by rw [hx5]; rfl
          clear hx5
          cases hh with
          | true =>
            go_wp2_with fail
            with_reducible refine (counts_to A c ps HN.out HXX.out HX6.out HE1.out _ HA6.out).mono ?_
            rintro e w7 ⟨⟨X, xc, rfl, hX⟩, hb7⟩
            have HM7 := Lib.hid (HM6.out.ext hb7)
            have HSX := Lib.hid hX
            have d0 := hb7.keep d0
            clear hX
            go_wp2_with fail
            with_reducible refine (counts_to M mc (ps ++ [x]) HN1.out HYY.out HY6.out HE2.out _ HM7.out).mono ?_
            rintro e w8 ⟨⟨Y, yc, rfl, hY⟩, hb8⟩
            have d0 := hb8.keep d0
            have HSX8 := Lib.hid (HSX.out.ext hb8)
            have HSY := Lib.hid hY
            have y8 := (x0.trans y6).trans (hb7.trans hb8)
            have HT8 := Lib.hid (HT.out.ext y8)
            clear hY hb7 hb8
            go_wp2
            go_loopw [18] (fun i wr => ∃ k : Nat, k ≤ 6 ∧ i = .int .i64 k ∧ Ext w8 wr) (fun i _ => 6 - (intOf i).toNat)
            case atStart => exact ⟨0, by omega, rfl, Ext.refl _⟩
            case round =>
              obtain ⟨k, hk, rfl, he⟩ := hrel
              have f0 := he.keep d0
              by_cases hlt : k < 6
              · have hlt' : (k : Int) < 6 := by omega
                obtain ⟨t1, t2, t3, t4⟩ := HAT.out k hlt
                obtain ⟨g1b, g1o, v1, rfl, hg1, u1, u2⟩ := (HSX8.out.ext he).at_ (i := k) (by rw [HX6.out]; exact hlt)
                obtain ⟨g2b, g2o, v2, rfl, hg2, r1, r2⟩ := (HSY.out.ext he).at_ (i := k) (by rw [HY6.out]; exact hlt)
                have e1v : v1 = In.cnt ps k := by rw [t1] at u1; injection u1 with u1; exact u1.symm
                have e2v : v2 = In.cnt ps k + if x.1 = (k : Int) + 1 then 1 else 0 := by rw [t2] at r1; injection r1 with r1; exact r1.symm
                clear t1 t2 u1 r1
                have ki0 : (0 : Int) ≤ (k : Int) := by omega
                have hw1 : IntKind.i64.wrap ((k : Int) + 1) = (k : Int) + 1 := IntWalk.i64_in _ (by omega)
                rw [← e1v] at e2v t3 t4
                clear e1v
                have hw2 : IntKind.i64.wrap (v1 + 1) = v1 + 1 := IntWalk.i64_in _ (by omega)
                by_cases hx1 : x.1 = (k : Int) + 1
                · rw [if_pos hx1] at e2v
                  have hx2 : (x.1 == (k : Int) + 1) = true := by rw [hx1]; simp
                  have hv : (v2 != v1 + 1) = false := by rw [e2v]; simp
                  clear e2v
                  go_wp2
                  go_roundw
                  case rel => exact ⟨k + 1, by omega, by go_num, he⟩
                  case measure => simp [intOf]; omega
                · rw [if_neg hx1, Int.add_zero] at e2v
                  have hx2 : (x.1 == (k : Int) + 1) = false := by rw [beq_eq_false_iff_ne]; exact hx1
                  have hv : (v2 != v1) = false := by rw [e2v]; simp
                  clear e2v
                  go_wp2
                  go_roundw
                  case rel => exact ⟨k + 1, by omega, by go_num, he⟩
                  case measure => simp [intOf]; omega
              · have hlt' : ¬ (k : Int) < 6 := by omega
                have HT9 := Lib.hid (HT8.out.ext he)
                go_wp2_with fail
                with_reducible refine (awake_any _ HT9.out).mono ?_
                rintro e w9 ⟨rfl, hb9⟩
                go_wp2
                go_ret
                exact ⟨rfl, (y8.trans he).trans hb9⟩
          | false =>
            go_wp2_with fail
            with_reducible refine (counts_to A c ps HN.out HXX.out HX6.out HE1.out _ HA6.out).mono ?_
            rintro e w7 ⟨⟨X, xc, rfl, hX⟩, hb7⟩
            have HM7 := Lib.hid (HM6.out.ext hb7)
            have HSX := Lib.hid hX
            have d0 := hb7.keep d0
            clear hX
            go_wp2_with fail
            with_reducible refine (counts_to M mc (ps ++ [x]) HN1.out HYY.out HY6.out HE2.out _ HM7.out).mono ?_
            rintro e w8 ⟨⟨Y, yc, rfl, hY⟩, hb8⟩
            have d0 := hb8.keep d0
            have HSX8 := Lib.hid (HSX.out.ext hb8)
            have HSY := Lib.hid hY
            have y8 := (x0.trans y6).trans (hb7.trans hb8)
            have HT8 := Lib.hid (HT.out.ext y8)
            clear hY hb7 hb8
            go_wp2
            go_loopw [18] (fun i wr => ∃ k : Nat, k ≤ 6 ∧ i = .int .i64 k ∧ Ext w8 wr) (fun i _ => 6 - (intOf i).toNat)
            case atStart => exact ⟨0, by omega, rfl, Ext.refl _⟩
            case round =>
              obtain ⟨k, hk, rfl, he⟩ := hrel
              have f0 := he.keep d0
              by_cases hlt : k < 6
              · have hlt' : (k : Int) < 6 := by omega
                obtain ⟨t1, t2, t3, t4⟩ := HAT.out k hlt
                obtain ⟨g1b, g1o, v1, rfl, hg1, u1, u2⟩ := (HSX8.out.ext he).at_ (i := k) (by rw [HX6.out]; exact hlt)
                obtain ⟨g2b, g2o, v2, rfl, hg2, r1, r2⟩ := (HSY.out.ext he).at_ (i := k) (by rw [HY6.out]; exact hlt)
                have e1v : v1 = In.cnt ps k := by rw [t1] at u1; injection u1 with u1; exact u1.symm
                have e2v : v2 = In.cnt ps k + if x.1 = (k : Int) + 1 then 1 else 0 := by rw [t2] at r1; injection r1 with r1; exact r1.symm
                clear t1 t2 u1 r1
                have ki0 : (0 : Int) ≤ (k : Int) := by omega
                have hw1 : IntKind.i64.wrap ((k : Int) + 1) = (k : Int) + 1 := IntWalk.i64_in _ (by omega)
                rw [← e1v] at e2v t3 t4
                clear e1v
                have hw2 : IntKind.i64.wrap (v1 + 1) = v1 + 1 := IntWalk.i64_in _ (by omega)
                by_cases hx1 : x.1 = (k : Int) + 1
                · rw [if_pos hx1] at e2v
                  have hx2 : (x.1 == (k : Int) + 1) = true := by rw [hx1]; simp
                  have hv : (v2 != v1 + 1) = false := by rw [e2v]; simp
                  clear e2v
                  go_wp2
                  go_roundw
                  case rel => exact ⟨k + 1, by omega, by go_num, he⟩
                  case measure => simp [intOf]; omega
                · rw [if_neg hx1, Int.add_zero] at e2v
                  have hx2 : (x.1 == (k : Int) + 1) = false := by rw [beq_eq_false_iff_ne]; exact hx1
                  have hv : (v2 != v1) = false := by rw [e2v]; simp
                  clear e2v
                  go_wp2
                  go_roundw
                  case rel => exact ⟨k + 1, by omega, by go_num, he⟩
                  case measure => simp [intOf]; omega
              · have hlt' : ¬ (k : Int) < 6 := by omega
                have HT9 := Lib.hid (HT8.out.ext he)
                go_wp2_with fail
                with_reducible refine (awake_any _ HT9.out).mono ?_
                rintro e w9 ⟨rfl, hb9⟩
                go_wp2
                go_ret
                exact ⟨rfl, (y8.trans he).trans hb9⟩
        · have hx5' : (x.1 == 5) = false := by rw [beq_eq_false_iff_ne]; exact hx5
          cases hh with
          | true =>
            go_wp2_with fail
            with_reducible refine (counts_to A c ps HN.out HXX.out HX6.out HE1.out _ HA6.out).mono ?_
            rintro e w7 ⟨⟨X, xc, rfl, hX⟩, hb7⟩
            have HM7 := Lib.hid (HM6.out.ext hb7)
            have HSX := Lib.hid hX
            have d0 := hb7.keep d0
            clear hX
            go_wp2_with fail
            with_reducible refine (counts_to M mc (ps ++ [x]) HN1.out HYY.out HY6.out HE2.out _ HM7.out).mono ?_
            rintro e w8 ⟨⟨Y, yc, rfl, hY⟩, hb8⟩
            have d0 := hb8.keep d0
            have HSX8 := Lib.hid (HSX.out.ext hb8)
            have HSY := Lib.hid hY
            have y8 := (x0.trans y6).trans (hb7.trans hb8)
            have HT8 := Lib.hid (HT.out.ext y8)
            clear hY hb7 hb8
            go_wp2
            go_loopw [18] (fun i wr => ∃ k : Nat, k ≤ 6 ∧ i = .int .i64 k ∧ Ext w8 wr) (fun i _ => 6 - (intOf i).toNat)
            case atStart => exact ⟨0, by omega, rfl, Ext.refl _⟩
            case round =>
              obtain ⟨k, hk, rfl, he⟩ := hrel
              have f0 := he.keep d0
              by_cases hlt : k < 6
              · have hlt' : (k : Int) < 6 := by omega
                obtain ⟨t1, t2, t3, t4⟩ := HAT.out k hlt
                obtain ⟨g1b, g1o, v1, rfl, hg1, u1, u2⟩ := (HSX8.out.ext he).at_ (i := k) (by rw [HX6.out]; exact hlt)
                obtain ⟨g2b, g2o, v2, rfl, hg2, r1, r2⟩ := (HSY.out.ext he).at_ (i := k) (by rw [HY6.out]; exact hlt)
                have e1v : v1 = In.cnt ps k := by rw [t1] at u1; injection u1 with u1; exact u1.symm
                have e2v : v2 = In.cnt ps k + if x.1 = (k : Int) + 1 then 1 else 0 := by rw [t2] at r1; injection r1 with r1; exact r1.symm
                clear t1 t2 u1 r1
                have ki0 : (0 : Int) ≤ (k : Int) := by omega
                have hw1 : IntKind.i64.wrap ((k : Int) + 1) = (k : Int) + 1 := IntWalk.i64_in _ (by omega)
                rw [← e1v] at e2v t3 t4
                clear e1v
                have hw2 : IntKind.i64.wrap (v1 + 1) = v1 + 1 := IntWalk.i64_in _ (by omega)
                by_cases hx1 : x.1 = (k : Int) + 1
                · rw [if_pos hx1] at e2v
                  have hx2 : (x.1 == (k : Int) + 1) = true := by rw [hx1]; simp
                  have hv : (v2 != v1 + 1) = false := by rw [e2v]; simp
                  clear e2v
                  go_wp2
                  go_roundw
                  case rel => exact ⟨k + 1, by omega, by go_num, he⟩
                  case measure => simp [intOf]; omega
                · rw [if_neg hx1, Int.add_zero] at e2v
                  have hx2 : (x.1 == (k : Int) + 1) = false := by rw [beq_eq_false_iff_ne]; exact hx1
                  have hv : (v2 != v1) = false := by rw [e2v]; simp
                  clear e2v
                  go_wp2
                  go_roundw
                  case rel => exact ⟨k + 1, by omega, by go_num, he⟩
                  case measure => simp [intOf]; omega
              · have hlt' : ¬ (k : Int) < 6 := by omega
                have HT9 := Lib.hid (HT8.out.ext he)
                go_wp2_with fail
                with_reducible refine (awake_any _ HT9.out).mono ?_
                rintro e w9 ⟨rfl, hb9⟩
                go_wp2
                go_ret
                exact ⟨rfl, (y8.trans he).trans hb9⟩
          | false =>
            go_wp2_with fail
            with_reducible refine (counts_to A c ps HN.out HXX.out HX6.out HE1.out _ HA6.out).mono ?_
            rintro e w7 ⟨⟨X, xc, rfl, hX⟩, hb7⟩
            have HM7 := Lib.hid (HM6.out.ext hb7)
            have HSX := Lib.hid hX
            have d0 := hb7.keep d0
            clear hX
            go_wp2_with fail
            with_reducible refine (counts_to M mc (ps ++ [x]) HN1.out HYY.out HY6.out HE2.out _ HM7.out).mono ?_
            rintro e w8 ⟨⟨Y, yc, rfl, hY⟩, hb8⟩
            have d0 := hb8.keep d0
            have HSX8 := Lib.hid (HSX.out.ext hb8)
            have HSY := Lib.hid hY
            have y8 := (x0.trans y6).trans (hb7.trans hb8)
            have HT8 := Lib.hid (HT.out.ext y8)
            clear hY hb7 hb8
            go_wp2
            go_loopw [18] (fun i wr => ∃ k : Nat, k ≤ 6 ∧ i = .int .i64 k ∧ Ext w8 wr) (fun i _ => 6 - (intOf i).toNat)
            case atStart => exact ⟨0, by omega, rfl, Ext.refl _⟩
            case round =>
              obtain ⟨k, hk, rfl, he⟩ := hrel
              have f0 := he.keep d0
              by_cases hlt : k < 6
              · have hlt' : (k : Int) < 6 := by omega
                obtain ⟨t1, t2, t3, t4⟩ := HAT.out k hlt
                obtain ⟨g1b, g1o, v1, rfl, hg1, u1, u2⟩ := (HSX8.out.ext he).at_ (i := k) (by rw [HX6.out]; exact hlt)
                obtain ⟨g2b, g2o, v2, rfl, hg2, r1, r2⟩ := (HSY.out.ext he).at_ (i := k) (by rw [HY6.out]; exact hlt)
                have e1v : v1 = In.cnt ps k := by rw [t1] at u1; injection u1 with u1; exact u1.symm
                have e2v : v2 = In.cnt ps k + if x.1 = (k : Int) + 1 then 1 else 0 := by rw [t2] at r1; injection r1 with r1; exact r1.symm
                clear t1 t2 u1 r1
                have ki0 : (0 : Int) ≤ (k : Int) := by omega
                have hw1 : IntKind.i64.wrap ((k : Int) + 1) = (k : Int) + 1 := IntWalk.i64_in _ (by omega)
                rw [← e1v] at e2v t3 t4
                clear e1v
                have hw2 : IntKind.i64.wrap (v1 + 1) = v1 + 1 := IntWalk.i64_in _ (by omega)
                by_cases hx1 : x.1 = (k : Int) + 1
                · rw [if_pos hx1] at e2v
                  have hx2 : (x.1 == (k : Int) + 1) = true := by rw [hx1]; simp
                  have hv : (v2 != v1 + 1) = false := by rw [e2v]; simp
                  clear e2v
                  go_wp2
                  go_roundw
                  case rel => exact ⟨k + 1, by omega, by go_num, he⟩
                  case measure => simp [intOf]; omega
                · rw [if_neg hx1, Int.add_zero] at e2v
                  have hx2 : (x.1 == (k : Int) + 1) = false := by rw [beq_eq_false_iff_ne]; exact hx1
                  have hv : (v2 != v1) = false := by rw [e2v]; simp
                  clear e2v
                  go_wp2
                  go_roundw
                  case rel => exact ⟨k + 1, by omega, by go_num, he⟩
                  case measure => simp [intOf]; omega
              · have hlt' : ¬ (k : Int) < 6 := by omega
                have HT9 := Lib.hid (HT8.out.ext he)
                go_wp2_with fail
                with_reducible refine (awake_any _ HT9.out).mono ?_
                rintro e w9 ⟨rfl, hb9⟩
                go_wp2
                go_ret
                exact ⟨rfl, (y8.trans he).trans hb9⟩
      | false =>
        have hh0 : hh = false := by
          cases hh with
          | false => rfl
          | true => exact absurd (HH1.out rfl) (by simp)
        subst hh0
        have hx5 : ¬ x.1 = 5 := fun e => absurd (HH2.out e) (by simp)
        have hx5' : (x.1 == 5) = false := by rw [beq_eq_false_iff_ne]; exact hx5
        go_wp2_with fail
        with_reducible refine (counts_to A c ps HN.out HXX.out HX6.out HE1.out _ HA6.out).mono ?_
        rintro e w7 ⟨⟨X, xc, rfl, hX⟩, hb7⟩
        have HM7 := Lib.hid (HM6.out.ext hb7)
        have HSX := Lib.hid hX
        have d0 := hb7.keep d0
        clear hX
        go_wp2_with fail
        with_reducible refine (counts_to M mc (ps ++ [x]) HN1.out HYY.out HY6.out HE2.out _ HM7.out).mono ?_
        rintro e w8 ⟨⟨Y, yc, rfl, hY⟩, hb8⟩
        have d0 := hb8.keep d0
        have HSX8 := Lib.hid (HSX.out.ext hb8)
        have HSY := Lib.hid hY
        have y8 := (x0.trans y6).trans (hb7.trans hb8)
        have HT8 := Lib.hid (HT.out.ext y8)
        clear hY hb7 hb8
        go_wp2
        go_loopw [18] (fun i wr => ∃ k : Nat, k ≤ 6 ∧ i = .int .i64 k ∧ Ext w8 wr) (fun i _ => 6 - (intOf i).toNat)
        case atStart => exact ⟨0, by omega, rfl, Ext.refl _⟩
        case round =>
          obtain ⟨k, hk, rfl, he⟩ := hrel
          have f0 := he.keep d0
          by_cases hlt : k < 6
          · have hlt' : (k : Int) < 6 := by omega
            obtain ⟨t1, t2, t3, t4⟩ := HAT.out k hlt
            obtain ⟨g1b, g1o, v1, rfl, hg1, u1, u2⟩ := (HSX8.out.ext he).at_ (i := k) (by rw [HX6.out]; exact hlt)
            obtain ⟨g2b, g2o, v2, rfl, hg2, r1, r2⟩ := (HSY.out.ext he).at_ (i := k) (by rw [HY6.out]; exact hlt)
            have e1v : v1 = In.cnt ps k := by rw [t1] at u1; injection u1 with u1; exact u1.symm
            have e2v : v2 = In.cnt ps k + if x.1 = (k : Int) + 1 then 1 else 0 := by rw [t2] at r1; injection r1 with r1; exact r1.symm
            clear t1 t2 u1 r1
            have ki0 : (0 : Int) ≤ (k : Int) := by omega
            have hw1 : IntKind.i64.wrap ((k : Int) + 1) = (k : Int) + 1 := IntWalk.i64_in _ (by omega)
            rw [← e1v] at e2v t3 t4
            clear e1v
            have hw2 : IntKind.i64.wrap (v1 + 1) = v1 + 1 := IntWalk.i64_in _ (by omega)
            by_cases hx1 : x.1 = (k : Int) + 1
            · rw [if_pos hx1] at e2v
              have hx2 : (x.1 == (k : Int) + 1) = true := by rw [hx1]; simp
              have hv : (v2 != v1 + 1) = false := by rw [e2v]; simp
              clear e2v
              go_wp2
              go_roundw
              case rel => exact ⟨k + 1, by omega, by go_num, he⟩
              case measure => simp [intOf]; omega
            · rw [if_neg hx1, Int.add_zero] at e2v
              have hx2 : (x.1 == (k : Int) + 1) = false := by rw [beq_eq_false_iff_ne]; exact hx1
              have hv : (v2 != v1) = false := by rw [e2v]; simp
              clear e2v
              go_wp2
              go_roundw
              case rel => exact ⟨k + 1, by omega, by go_num, he⟩
              case measure => simp [intOf]; omega
          · have hlt' : ¬ (k : Int) < 6 := by omega
            have HT9 := Lib.hid (HT8.out.ext he)
            go_wp2_with fail
            with_reducible refine (awake_any _ HT9.out).mono ?_
            rintro e w9 ⟨rfl, hb9⟩
            go_wp2
            go_ret
            exact ⟨rfl, (y8.trans he).trans hb9⟩
    · have z2' : (er2 != 0) = true := by rw [bne_iff_ne]; exact z2
      clear z2
      by_cases z1 : er1 = 0
      · have z1' : (er1 != 0) = false := by rw [z1]; rfl
        clear z1
        go_wp2_with fail
        with_reducible refine (awake_any _ HT2.out).mono ?_
        rintro e w3 ⟨rfl, hb3⟩
        go_wp2
        go_ret
        exact ⟨rfl, (x0.trans y2).trans hb3⟩
      · have z1' : (er1 != 0) = true := by rw [bne_iff_ne]; exact z1
        clear z1
        go_wp2_with fail
        with_reducible refine (awake_any _ HT2.out).mono ?_
        rintro e w3 ⟨rfl, hb3⟩
        go_wp2
        go_ret
        exact ⟨rfl, (x0.trans y2).trans hb3⟩


theorem incidentMore_laid (os : Os) : laidMet Tryd.prog Rows.incidentMoreRow.laid ((laidW os).forCall (fun _ _ => 0) ⟨#[], #[.slice none 0 0, .agg #[.int .i64 0, .int .i64 0, .int .i64 0, .int .i64 0], .int .i64 0], []⟩).memory :=
  laidMet_of_run' 8 (by kernel_rfl) (by kernel_rfl)
theorem incidentMore_reads (os : Os) {H : Type} (enc : TypeId × Value → H) : ∃ places, DataW.whole enc Tryd.prog ((laidW os).forCall (fun _ _ => 0) ⟨#[], #[.slice none 0 0, .agg #[.int .i64 0, .int .i64 0, .int .i64 0, .int .i64 0], .int .i64 0], []⟩).memory Tryd.f9.params.toList Rows.incidentMoreSpec.vars false (#[.slice none 0 0, .agg #[.int .i64 0, .int .i64 0, .int .i64 0, .int .i64 0], .int .i64 0] : Array Value).toList 8 = some ([.nil, .agg [.lit (.int .i64 0), .lit (.int .i64 0), .lit (.int .i64 0), .lit (.int .i64 0)], .lit (.int .i64 0)], [], places) :=
  ⟨[], by kernel_rfl⟩
set_option maxRecDepth 100000 in
theorem incidentMore_lifted (os : Os) (started : os.Started) (H : Type) (enc : TypeId × Value → H) (F : Stop.Interp) :
    ReturnsInHanded {} Tryd.checked os 9 .any ((OpenSpec.ofChange Rows.incidentMoreSpec).preRow enc Tryd.prog Tryd.f9 Rows.incidentMoreRow.domain false Rows.incidentMoreRow.laid) (((OpenSpec.ofChange Rows.incidentMoreSpec).at F).post enc Tryd.prog Tryd.f9 false true false false) := by
  obtain ⟨places, hx⟩ := incidentMore_reads os enc
  refine returnsInHanded_of_row (C := Tryd.checked) (s := (OpenSpec.ofChange Rows.incidentMoreSpec)) Tryd.own started (by kernel_rfl) Tryd.func9
    (witness_row_at (enc := enc) (C := Tryd.checked) false (laidW os) #[.slice none 0 0, .agg #[.int .i64 0, .int .i64 0, .int .i64 0, .int .i64 0], .int .i64 0] rfl (by kernel_rfl) (by kernel_rfl) (by kernel_rfl)
      (OpenSpec.preRow_of_cond 8 hx (by kernel_rfl) (fun k hk => by cases hk) (by kernel_rfl) (incidentMore_laid os))) ?_
  intro W base args ds gs before hval0 hW _ hcond hsz0 hL hsh _
  have hval : ∀ (j : Nat) t v, Tryd.f9.params[j]? = some t → args[j]? = some v → Value.okWide Tryd.prog W .any base t v := hval0
  have hW' : DataW.Whole enc Tryd.prog Tryd.f9.params.toList Rows.incidentMoreSpec.vars false W args.toList ds gs before := hW
  have hW2 := hW'
  obtain ⟨p, q, hA0, hV, rfl, hfz, hnd⟩ := hW2
  have hA : DataW.TrodAll enc Tryd.prog W 0 (fun _ => true) true Tryd.f9.params.toList args.toList ds p := hA0
  rw [Tryd.params9] at hA hval
  obtain ⟨v0, vs0, d0, ds0, p0, q0, hargs, rfl, rfl, h0, r0⟩ := trodAll_cons hA
  obtain ⟨v1, vs1, d1, ds1, p1, q1, rfl, rfl, rfl, h1, r1⟩ := trodAll_cons r0
  obtain ⟨v2, vs2, d2, ds2, p2, q2, rfl, rfl, rfl, h2, r2⟩ := trodAll_cons r1
  obtain ⟨rfl, rfl, rfl⟩ := trodAll_nil r2
  obtain rfl : args = #[v0, v1, v2] := by cases args; simp_all
  obtain ⟨rfl, rfl⟩ := trodVars_none hV
  skip
  obtain ⟨x, rfl, hR0⟩ := incv_open (hval 1 23 v1 rfl rfl) h1
  obtain ⟨most, rfl, hd0, rfl, b0⟩ := open_int Tryd.underlying3 (hval 2 3 v2 rfl rfl) h2
  have hsz : (DataW.weightsEach Tryd.prog (Tryd.f9.params.toList ++ Rows.incidentMoreSpec.plain.varTypes Tryd.prog) _).all (· ≤ reachBytes) = true := hsz0
  rw [Tryd.params9] at hsz
  obtain ⟨A, c, ps, rfl, hR1, hR2⟩ := incs_openW (hval 0 24 v0 rfl rfl) h0 (light_arg hsz (j := 0) rfl rfl)
  refine (incidentMore_walk A c ps x most W hR1 hR2 hR0 (tab_of hL)).mono fun e W' ⟨he, hw⟩ => ?_
  subst he
  exact ⟨_, rfl, law_post (s := Rows.incidentMoreSpec) hW' Tryd.laidOut (by kernel_rfl) rfl (by rfl) rfl Tryd.underlying4 hw⟩

theorem incidentMore_holds : Rows.IncidentMoreSaid :=
  OpenClaim.holds_of_cond 9 Tryd.f9 rfl rfl rfl rfl rfl rfl rfl ⟨rfl, rfl, rfl, rfl, rfl⟩ rfl rfl rfl rfl rfl (by kernel_rfl) Tryd.func9 (by kernel_rfl)
    (of_decide_eq_true (by kernel_rfl)) (by unfold Func.isWrapper; first | (rw [if_pos (by decide +kernel)]; kernel_rfl) | (rw [if_neg (by decide +kernel)]; exact ⟨rfl, rfl⟩))
    (fun os started H enc _ F => by rw [OpenClaim.pre_eq_preRow]; exact incidentMore_lifted os started H enc F)
theorem incidentMore_card : Rows.IncidentMoreCardSaid :=
  Claim7.holds_tied_plain_at .later [] _ _ _ _
    incidentMore_holds (fun _ h => by cases h) (by kernel_rfl) (fun _ h => by cases h) incidentMore_row_tie rfl ⟨rfl, rfl⟩ (by kernel_rfl) rfl
    (fun f fn hf hfn => by
      obtain rfl : f = 9 := Option.some.inj ((show Tryd.prog.funcNamed Rows.incidentMoreRow.func = some 9 by kernel_rfl).symm.trans hf) |>.symm
      obtain rfl : fn = Tryd.f9 := (Option.some.inj (Tryd.func9.symm.trans hfn)).symm
      exact ⟨by kernel_rfl, fun j t ht => by
        rw [Tryd.params9] at ht
        have hm : t ∈ [24, 23, 3] := by simpa using Array.mem_of_getElem? ht
        have hall : ([24, 23, 3].all fun u => !Tryd.prog.wantsStandIn u) = true := by kernel_rfl
        exact (show Tryd.prog.wantsStandIn t = false by simpa using List.all_eq_true.1 hall t hm)⟩)
    (by kernel_rfl)
#print axioms incidentMore_card
end Go.Proofs.YtcpapnnghclbmaaDoor
