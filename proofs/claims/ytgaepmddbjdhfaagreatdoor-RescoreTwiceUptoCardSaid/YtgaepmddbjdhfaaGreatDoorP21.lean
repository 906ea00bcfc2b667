/- The score of an answer, in the package: a contract. Conditions: those of each theorem. -/
import Derived.Test.YtgaepmddbjdhfaaGreatDoorP20
namespace Go.Proofs.YtgaepmddbjdhfaaGreatDoor
open Go.ChangeShapes Go.WideShapes Go.ChangeAt Go.RowKit
namespace Rs
theorem cat_om {it : It.Item} {a : Ans} (h : a.om = true) : cat it a = 0 := by unfold cat; rw [if_pos h]
theorem cat_2 {it : It.Item} {a : Ans} (h : a.om = false) (hk : it.kind = 2) : cat it a = pts (rgtM it.chs a.chs) a.chs.length it.pts it.chs.length := by unfold cat; rw [if_neg (by rw [h]; simp), if_pos hk]
theorem cat_3 {it : It.Item} {a : Ans} (h : a.om = false) (hk : it.kind = 3) : cat it a = pts (rgtO it.chs a.chs) (prs a.chs) it.pts (prs a.chs) := by unfold cat; rw [if_neg (by rw [h]; simp), if_neg (by omega), if_pos hk]
theorem cat_1 {it : It.Item} {a : Ans} (h : a.om = false) (hk : it.kind = 1) {x y : Int} (hx : a.chs = [x]) (hy : it.chs = [y]) : cat it a = if x = y then it.pts else 0 := by
  unfold cat; rw [if_neg (by rw [h]; simp), if_neg (by omega), if_neg (by omega), if_pos hk, hx, hy]; simp
theorem cat_4 {it : It.Item} {a : Ans} (h : a.om = false) (hk : it.kind = 4) : cat it a = if (a.val - it.value ≤ it.tol ∧ it.value - a.val ≤ it.tol) then it.pts else 0 := by
  unfold cat; rw [if_neg (by rw [h]; simp), if_neg (by omega), if_neg (by omega), if_neg (show ¬ it.kind = 1 by omega), if_pos hk]; simp
theorem cat_5 {it : It.Item} {a : Ans} (h : a.om = false) (hk : it.kind = 5) : cat it a = if inL it.texts (nrmB a.text) = true then it.pts else 0 := by
  unfold cat; rw [if_neg (by rw [h]; simp), if_neg (by omega), if_neg (by omega), if_neg (show ¬ it.kind = 1 by omega), if_neg (show ¬ it.kind = 4 by omega), eqText_mem]
theorem scE_6 {it : It.Item} {a : Ans} (h : vla it a = 0) (hk : it.kind = 6) : scE it a = 8 := by unfold scE; rw [if_neg (by rw [h]; simp), if_pos hk]
theorem scE_0 {it : It.Item} {a : Ans} (h : vla it a = 0) (hk : it.kind ≠ 6) : scE it a = 0 := by unfold scE; rw [if_neg (by rw [h]; simp), if_neg hk]
theorem scE_bad {it : It.Item} {a : Ans} (h : vla it a ≠ 0) : scE it a = vla it a := by unfold scE; rw [if_pos h]
theorem sc_0 {it : It.Item} {a : Ans} (h : scE it a = 0) : sc it a = cat it a := by unfold sc; rw [if_neg (by rw [h]; simp)]
theorem sc_bad {it : It.Item} {a : Ans} (h : scE it a ≠ 0) : sc it a = 0 := by unfold sc; rw [if_pos h]
end Rs
set_option maxRecDepth 100000 in
set_option maxHeartbeats 64000000 in
theorem kscore_any (it : It.Item) (L : It.Loc) (a : Rs.Ans) (M : Rs.ALoc) (w : World) (h : It.In w it L) (ha : a.In w M) (hg : ∀ w', Ext w w' → Gm w') :
    Calls Tryz.prog 26 #[It.agg it L, a.agg M] w fun e w' => e = .returned (.tuple #[.int .i64 (Rs.sc it a), .int .i64 (Rs.scE it a)]) ∧ Ext w w' := by
  obtain ⟨CA, hca, hna, -, hka⟩ := rs_packed it L
  obtain ⟨CB, hcb, hnb, -, hkb⟩ := Rs.Ans.packed a M
  have HV := Lib.hid (kvalid_any it L a M)
  have HM2 := Lib.hid (fun (n m : Nat) (hn : a.chs.length = n) (hm : it.chs.length = m) => scoreMulti_any it L M.1 M.2 a.chs hn hm)
  have HO2 := Lib.hid (fun (n m : Nat) (hn : a.chs.length = n) (hm : it.chs.length = m) => scoreOrder_any it L M.1 M.2 a.chs hn hm)
  rw [hca] at HM2 HO2
  rw [hca, hcb] at HV
  rw [hca, hcb]
  have ja2 : CA[2]? = some (.int .i64 it.kind) := by rw [← hka]; rfl
  have ja5 : CA[5]? = some (.slice L.cA it.chs.length L.cc) := by rw [← hka]; rfl
  have ja6 : CA[6]? = some (.int .i64 it.value) := by rw [← hka]; rfl
  have ja7 : CA[7]? = some (.int .i64 it.tol) := by rw [← hka]; rfl
  have ja8 : CA[8]? = some (.slice L.tA it.texts.length L.tc) := by rw [← hka]; rfl
  have ja9 : CA[9]? = some (.int .i64 it.pts) := by rw [← hka]; rfl
  have jb1 : CB[1]? = some (.slice M.1 a.chs.length M.2) := by rw [← hkb]; rfl
  have jb2 : CB[2]? = some (.int .i64 a.val) := by rw [← hkb]; rfl
  have jb3 : CB[3]? = some (.string a.text) := by rw [← hkb]; rfl
  have jb4 : CB[4]? = some (.bool a.om) := by rw [← hkb]; rfl
  have JA := Lib.hid (And.intro ja2 (And.intro ja5 (And.intro ja6 (And.intro ja7 (And.intro ja8 ja9)))))
  have JB := Lib.hid (And.intro jb1 (And.intro jb2 (And.intro jb3 jb4)))
  clear ja2 ja5 ja6 ja7 ja8 ja9 jb1 jb2 jb3 jb4
  have HI := Lib.hid h
  have HA := Lib.hid ha
  have IA := Lib.hid (rs_infoItem hna)
  have IB := Lib.hid (rs_infoAns hnb)
  have HCL : Hid (SlI w L.cA it.chs) := Lib.hid h.c
  have HTL : Hid (SlS w L.tA it.texts) := Lib.hid h.t
  have HSL : Hid (SlI w M.1 a.chs) := Lib.hid ha.c
  have hcc : a.chs.length ≤ M.2 := ha.cc.1
  have hcm : M.2 ≤ 9223372036854775807 := by have := ha.cc.2; unfold maxLen at this; omega
  clear hca hcb hna hnb hka hkb h ha
  have HG := Lib.hid hg
  clear hg
  obtain ⟨er, her⟩ : ∃ er, Rs.vla it a = er := ⟨_, rfl⟩
  rw [her] at HV
  obtain ⟨v1, hv1⟩ : ∃ v, Rs.sc it a = v := ⟨_, rfl⟩
  obtain ⟨v2, hv2⟩ : ∃ v, Rs.scE it a = v := ⟨_, rfl⟩
  rw [hv1, hv2]
  have HE := Lib.hid her
  have HV1 := Lib.hid hv1
  have HV2 := Lib.hid hv2
  clear her hv1 hv2
  go_enter Tryz.func26, Tryz.ntmps26
  go_wp2_with (first
    | (with_reducible refine wpList_load_row rfl 55 (.tmp 2) rfl w.heap.size (by with_unfolding_all rfl) _ CA _ _ (two_fst _ _ _) Tryz.underlying55 rfl IA.out ?_)
    | (with_reducible refine wpList_load_row rfl 64 (.tmp 3) rfl (w.heap.size + 1) (by with_unfolding_all rfl) _ CB _ _ (two_snd _ _ _) Tryz.underlying64 rfl IB.out ?_))
  have X0 := ((Ext.refl w).alloc (.cells CA 55)).alloc (.cells CB 64)
  with_reducible refine (HV.out _ (HI.out.ext X0) (HA.out.ext X0) (fun w' he => HG.out w' (X0.trans he))).mono ?_
  rintro e w1 ⟨rfl, hb1⟩
  have A1 := hb1.blockAt (two_fst w (.cells CA 55) (.cells CB 64))
  have B1 := hb1.blockAt (two_snd w (.cells CA 55) (.cells CB 64))
  have a2 : w1.cell? ⟨w.heap.size, 2, none⟩ = some (.int .i64 it.kind) := (cell_of_row _ _ 2 _ _ _ A1).trans JA.out.1
  have a5 : w1.cell? ⟨w.heap.size, 5, none⟩ = some (.slice L.cA it.chs.length L.cc) := (cell_of_row _ _ 5 _ _ _ A1).trans JA.out.2.1
  have a6 : w1.cell? ⟨w.heap.size, 6, none⟩ = some (.int .i64 it.value) := (cell_of_row _ _ 6 _ _ _ A1).trans JA.out.2.2.1
  have a7 : w1.cell? ⟨w.heap.size, 7, none⟩ = some (.int .i64 it.tol) := (cell_of_row _ _ 7 _ _ _ A1).trans JA.out.2.2.2.1
  have a8 : w1.cell? ⟨w.heap.size, 8, none⟩ = some (.slice L.tA it.texts.length L.tc) := (cell_of_row _ _ 8 _ _ _ A1).trans JA.out.2.2.2.2.1
  have a9 : w1.cell? ⟨w.heap.size, 9, none⟩ = some (.int .i64 it.pts) := (cell_of_row _ _ 9 _ _ _ A1).trans JA.out.2.2.2.2.2
  have b1 : w1.cell? ⟨w.heap.size + 1, 1, none⟩ = some (.slice M.1 a.chs.length M.2) := (cell_of_row _ _ 1 _ _ _ B1).trans JB.out.1
  have b2 : w1.cell? ⟨w.heap.size + 1, 2, none⟩ = some (.int .i64 a.val) := (cell_of_row _ _ 2 _ _ _ B1).trans JB.out.2.1
  have b3 : w1.cell? ⟨w.heap.size + 1, 3, none⟩ = some (.string a.text) := (cell_of_row _ _ 3 _ _ _ B1).trans JB.out.2.2.1
  have b4 : w1.cell? ⟨w.heap.size + 1, 4, none⟩ = some (.bool a.om) := (cell_of_row _ _ 4 _ _ _ B1).trans JB.out.2.2.2
  have X1 := Lib.hid (X0.trans hb1)
  have BA := Lib.hid A1
  clear hb1 X0 A1 B1 HV
  by_cases he : er = 0
  case neg =>
    have t0 : (er != 0) = true := by rw [bne_iff_ne]; exact he
    have HF2 : Hid (v2 = er) := Lib.hid (by rw [← HV2.out, Rs.scE_bad (by rw [HE.out]; exact he), HE.out])
    have HF1 : Hid (v1 = 0) := Lib.hid (by rw [← HV1.out, Rs.sc_bad (by rw [HV2.out, HF2.out]; exact he)])
    clear he
    go_wp2
    go_ret2
    exact ⟨ret_two HF1.out.symm HF2.out.symm, X1.out⟩
  have t0 : (er != 0) = false := by rw [he]; rfl
  have HZ : Hid (Rs.vla it a = 0) := Lib.hid (by rw [HE.out]; exact he)
  clear he
  have HVLD : Hid (It.vld it = 0) := Lib.hid (Rs.vla_vld HZ.out).1
  obtain ⟨kd, hkd⟩ : ∃ kd, it.kind = kd := ⟨_, rfl⟩
  have hk : kd = 1 ∨ kd = 2 ∨ kd = 3 ∨ kd = 4 ∨ kd = 5 ∨ kd = 6 := by rw [← hkd]; exact Rs.vld_kind HVLD.out
  rw [hkd] at a2
  have HKD := Lib.hid hkd
  clear hkd
  obtain ⟨om, hom⟩ : ∃ q, a.om = q := ⟨_, rfl⟩
  rw [hom] at b4
  have HOM := Lib.hid hom
  clear hom
  by_cases h6 : kd = 6
  · subst h6
    have HF2 : Hid (v2 = 8) := Lib.hid (by rw [← HV2.out, Rs.scE_6 HZ.out HKD.out])
    have HF1 : Hid (v1 = 0) := Lib.hid (by rw [← HV1.out, Rs.sc_bad (by rw [HV2.out, HF2.out]; decide)])
    go_wp2
    go_ret2
    exact ⟨ret_two HF1.out.symm HF2.out.symm, X1.out⟩
  have HF2 : Hid (v2 = 0) := Lib.hid (by rw [← HV2.out, Rs.scE_0 HZ.out (by rw [HKD.out]; exact h6)])
  have HC : Hid (v1 = Rs.cat it a) := Lib.hid (by rw [← HV1.out, Rs.sc_0 (HV2.out.trans HF2.out)])
  have t6 : (kd == 6) = false := by rw [beq_eq_false_iff_ne]; exact h6
  cases om with
  | true =>
    have HF1 : Hid (v1 = 0) := Lib.hid (by rw [HC.out, Rs.cat_om HOM.out])
    clear hk
    go_wp2
    go_ret2
    exact ⟨ret_two HF1.out.symm HF2.out.symm, X1.out⟩
  | false =>
    obtain ⟨hp1, hp2⟩ := (Rs.vld_key HVLD.out).2
    have hsm := It.vld_small HVLD.out
    obtain ⟨sm1, sm2, sm3, sm4⟩ := hsm
    rcases hk with rfl | rfl | rfl | rfl | rfl | rfl
    · -- one choice
      have hl1 := Rs.ans_1 HZ.out HKD.out HOM.out
      have hk1 := Rs.key_1 HVLD.out HKD.out
      obtain ⟨x, hx⟩ : ∃ x, a.chs = [x] := List.length_eq_one_iff.1 hl1
      obtain ⟨y, hy⟩ : ∃ y, it.chs = [y] := List.length_eq_one_iff.1 hk1
      have HC1 := Lib.hid (Rs.cat_1 HOM.out HKD.out hx hy)
      rw [hl1] at b1
      rw [hk1] at a5
      have hs1 := HSL.out.ext X1.out
      have hs2 := HCL.out.ext X1.out
      rw [hx] at hs1
      rw [hy] at hs2
      obtain ⟨bx, ox, x', hA1, -, hx1, cx⟩ := hs1.at_ (i := 0) (by simp)
      obtain ⟨by1, oy, y', hA2, -, hy1, cy⟩ := hs2.at_ (i := 0) (by simp)
      obtain rfl : x = x' := by simpa using hx1
      obtain rfl : y = y' := by simpa using hy1
      rw [hA1] at b1
      rw [hA2] at a5
      rw [Nat.add_zero] at cx cy
      clear hs1 hs2 hx1 hy1 hA1 hA2 hx hy hl1 hk1
      by_cases hxy : x = y
      · have t1 : (x == y) = true := by rw [beq_iff_eq]; exact hxy
        have HF1 : Hid (v1 = it.pts) := Lib.hid (by rw [HC.out, HC1.out, if_pos hxy])
        clear hxy
        go_wp2_with fail
        go_quiet (fail)
        go_wp2
        go_ret2
        exact ⟨ret_two HF1.out.symm HF2.out.symm, X1.out.drewN _⟩
      · have t1 : (x == y) = false := by rw [beq_eq_false_iff_ne]; exact hxy
        have HF1 : Hid (v1 = 0) := Lib.hid (by rw [HC.out, HC1.out, if_neg hxy])
        clear hxy
        go_wp2_with fail
        go_quiet (fail)
        go_wp2
        go_ret2
        exact ⟨ret_two HF1.out.symm HF2.out.symm, X1.out.drewN _⟩
    · -- several choices
      have h10 := Rs.ans_2 HZ.out HKD.out HOM.out
      obtain ⟨hk1, -⟩ := Rs.key_2 HVLD.out HKD.out
      have HC1 := Lib.hid (Rs.cat_2 HOM.out HKD.out)
      go_wp2_with (with_reducible refine wpList_load_row rfl 55 (.tmp 2) rfl w.heap.size (by with_unfolding_all rfl) _ CA _ _ BA.out Tryz.underlying55 rfl IA.out ?_)
      with_reducible refine (HM2.out _ _ rfl rfl h10 hk1 sm2 ⟨hp1, hp2⟩ (v := v1) (by rw [HC.out, HC1.out]) _ (HCL.out.ext X1.out) (HSL.out.ext X1.out)).mono ?_
      rintro e w2 ⟨rfl, hb2⟩
      have X2 := Lib.hid (X1.out.trans hb2)
      clear hb2
      go_wp2
      go_ret2
      exact ⟨ret_two rfl HF2.out.symm, X2.out⟩
    · -- an order
      obtain ⟨h10, h2⟩ := Rs.ans_3 HZ.out HKD.out HOM.out
      have HC1 := Lib.hid (Rs.cat_3 HOM.out HKD.out)
      go_wp2_with (with_reducible refine wpList_load_row rfl 55 (.tmp 2) rfl w.heap.size (by with_unfolding_all rfl) _ CA _ _ BA.out Tryz.underlying55 rfl IA.out ?_)
      with_reducible refine (HO2.out _ _ rfl rfl h10 h2 sm2 hcc hcm ⟨hp1, hp2⟩ (v := v1) (by rw [HC.out, HC1.out]) _ (HCL.out.ext X1.out) (HSL.out.ext X1.out)).mono ?_
      rintro e w2 ⟨rfl, hb2⟩
      have X2 := Lib.hid (X1.out.trans hb2)
      clear hb2
      go_wp2
      go_ret2
      exact ⟨ret_two rfl HF2.out.symm, X2.out⟩
    · -- a number
      obtain ⟨n1, n2⟩ := Rs.ans_4 HZ.out HKD.out HOM.out
      obtain ⟨n3, n4, n5, n6⟩ := Rs.key_4 HVLD.out HKD.out
      have HC1 := Lib.hid (Rs.cat_4 HOM.out HKD.out)
      rcases (show (a.val - it.value < it.value - a.val ∧ it.value - a.val ≤ it.tol) ∨ (a.val - it.value < it.value - a.val ∧ it.tol < it.value - a.val) ∨ (¬ a.val - it.value < it.value - a.val ∧ a.val - it.value ≤ it.tol) ∨ (¬ a.val - it.value < it.value - a.val ∧ it.tol < a.val - it.value) by omega) with ⟨h1, h2⟩ | ⟨h1, h2⟩ | ⟨h1, h2⟩ | ⟨h1, h2⟩
      · have HF1 : Hid (v1 = it.pts) := Lib.hid (by rw [HC.out, HC1.out, if_pos (by omega)])
        go_wp2
        go_ret2
        exact ⟨ret_two HF1.out.symm HF2.out.symm, X1.out⟩
      · have HF1 : Hid (v1 = 0) := Lib.hid (by rw [HC.out, HC1.out, if_neg (by omega)])
        go_wp2
        go_ret2
        exact ⟨ret_two HF1.out.symm HF2.out.symm, X1.out⟩
      · have HF1 : Hid (v1 = it.pts) := Lib.hid (by rw [HC.out, HC1.out, if_pos (by omega)])
        go_wp2
        go_ret2
        exact ⟨ret_two HF1.out.symm HF2.out.symm, X1.out⟩
      · have HF1 : Hid (v1 = 0) := Lib.hid (by rw [HC.out, HC1.out, if_neg (by omega)])
        go_wp2
        go_ret2
        exact ⟨ret_two HF1.out.symm HF2.out.symm, X1.out⟩
    · -- a text
      have n1 := Rs.ans_5 HZ.out HKD.out HOM.out
      have HC1 := Lib.hid (Rs.cat_5 HOM.out HKD.out)
      obtain ⟨q, hq⟩ : ∃ q, Rs.inL it.texts (Rs.nrmB a.text) = q := ⟨_, rfl⟩
      have HQ := Lib.hid hq
      clear hq
      have hdr : Ext w1 w1.drew := (Ext.refl w1).drew
      have HT1 : Hid (SlS w1 L.tA it.texts) := Lib.hid (HTL.out.ext X1.out)
      have htl : it.texts.length ≤ 9223372036854775807 := by omega
      go_wp2_with fail
      go_region_held3 (fun w' => w'.cell? ⟨w.heap.size, 8, none⟩ = some (.slice L.tA it.texts.length L.tc) ∧ w'.cell? ⟨w.heap.size + 1, 3, none⟩ = some (.string a.text))
        (first
          | (with_reducible exact ⟨hdr.keep a8, hdr.keep b3⟩)
          | (with_reducible exact ⟨hE2.keep a8, hE2.keep b3⟩)
          | (with_reducible exact ⟨hE1.keep a8, hE1.keep b3⟩))
        (first
          | (have hq := hE1; go_at_call 53; clear hq; refine (tcontains_any L.tA L.tc it.texts (Rs.nrmB a.text) rfl HQ.out _ (HT1.out.ext hE1) htl).mono ?_; rintro e w3 ⟨rfl, hb3⟩; have hE2 : Ext w1 w3 := hE1.trans hb3)
          | (go_at_call 54; refine (normal_any a.text _ n1).mono ?_; rintro e w2 ⟨rfl, hb2⟩; have hE1 : Ext w1 w2 := hdr.trans hb2))
      have X3 := Lib.hid (X1.out.trans hE2)
      have c9 := hE2.keep a9
      cases q with
      | true =>
        have HF1 : Hid (v1 = it.pts) := Lib.hid (by rw [HC.out, HC1.out, HQ.out, if_pos rfl])
        go_wp2
        go_ret2
        exact ⟨ret_two HF1.out.symm HF2.out.symm, X3.out⟩
      | false =>
        have HF1 : Hid (v1 = 0) := Lib.hid (by rw [HC.out, HC1.out, HQ.out, if_neg (by decide)])
        go_wp2
        go_ret2
        exact ⟨ret_two HF1.out.symm HF2.out.symm, X3.out⟩
    · exact absurd rfl h6
end Go.Proofs.YtgaepmddbjdhfaaGreatDoor
