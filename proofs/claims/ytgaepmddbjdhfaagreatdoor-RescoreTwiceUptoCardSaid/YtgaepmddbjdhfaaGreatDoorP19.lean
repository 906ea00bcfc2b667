/- Whether an answer fits an item, in the package: a contract. Conditions: those of each theorem. -/
import Derived.Test.YtgaepmddbjdhfaaGreatDoorP18
namespace Go.Proofs.YtgaepmddbjdhfaaGreatDoor
open Go.ChangeShapes Go.WideShapes Go.ChangeAt Go.RowKit
theorem rs_infoItem {CS : Array Value} (h : CS.size = 17) : (Tryz.prog.info? 55).map (·.size) = some CS.size := by rw [h]; kernel_rfl
theorem rs_infoAns {CS : Array Value} (h : CS.size = 5) : (Tryz.prog.info? 64).map (·.size) = some CS.size := by rw [h]; kernel_rfl
theorem two_fst (w : World) (o1 o2 : Obj) : ((w.alloc o1).alloc o2).heap[w.heap.size]? = some o1 := ((Ext.refl (w.alloc o1)).alloc o2).blockAt (heap_alloc_new w o1)
theorem two_snd (w : World) (o1 o2 : Obj) : ((w.alloc o1).alloc o2).heap[w.heap.size + 1]? = some o2 := heap_new_at _ _ _ (by simp)
namespace Rs
theorem vld_kind {it : It.Item} (h : It.vld it = 0) : it.kind = 1 ∨ it.kind = 2 ∨ it.kind = 3 ∨ it.kind = 4 ∨ it.kind = 5 ∨ it.kind = 6 := by
  unfold It.vld at h
  split at h
  · exact absurd h (by decide)
  · split at h
    · exact absurd h (by decide)
    · rename_i g
      have g : It.wi it.kind 1 6 = true := by simpa using g
      rw [It.wi_iff] at g
      omega
/-- The error of an answer, by its parts. -/
def vlP (id kd : Int) (m : Nat) (ai : Int) (l : List Int) (av : Int) (tx : ByteArray) (om : Bool) : Int :=
  if ai ≠ id then 6 else if ((decide (0 < l.length) && (om || !hasC kd)) || (decide (av ≠ 0) && (om || decide (kd ≠ 4))) || (decide (tx.size ≠ 0) && (om || !hasT kd))) = true then 1 else if om = true then 0
  else if kd = 4 then (if It.wi av (-9999999) 9999999 = true then 0 else 3) else if kd = 5 then (if 200 < tx.size then 5 else 0) else if kd = 6 then (if 2000 < tx.size then 5 else 0) else cho kd m l
theorem vlP_eq (it : It.Item) (a : Ans) : vl it a = vlP it.id it.kind it.opts.length a.item a.chs a.val a.text a.om := rfl
theorem hasC_1 : hasC 1 = true := rfl
theorem hasC_2 : hasC 2 = true := rfl
theorem hasC_3 : hasC 3 = true := rfl
theorem hasC_4 : hasC 4 = false := rfl
theorem hasC_5 : hasC 5 = false := rfl
theorem hasC_6 : hasC 6 = false := rfl
theorem hasT_1 : hasT 1 = false := rfl
theorem hasT_2 : hasT 2 = false := rfl
theorem hasT_3 : hasT 3 = false := rfl
theorem hasT_4 : hasT 4 = false := rfl
theorem hasT_5 : hasT 5 = true := rfl
theorem hasT_6 : hasT 6 = true := rfl
end Rs
set_option maxRecDepth 100000 in
set_option maxHeartbeats 64000000 in
theorem kvalid_any (it : It.Item) (L : It.Loc) (a : Rs.Ans) (M : Rs.ALoc) (w : World) (h : It.In w it L) (ha : a.In w M) (hg : ∀ w', Ext w w' → Gm w') :
    Calls Tryz.prog 50 #[It.agg it L, a.agg M] w fun e w' => e = .returned (.int .i64 (Rs.vla it a)) ∧ Ext w w' := by
  obtain ⟨CA, hca, hna, -, hka⟩ := rs_packed it L
  obtain ⟨CB, hcb, hnb, -, hkb⟩ := Rs.Ans.packed a M
  have HV := Lib.hid (valid_any it L)
  have HCH := Lib.hid (fun (n m : Nat) (hn : a.chs.length = n) (hm : it.opts.length = m) => checkChoices_any it L M.1 M.2 a.chs hn hm)
  rw [hca] at HV HCH
  rw [hca, hcb]
  have HVS : Hid (It.vld it = 0 → it.kind = 1 ∨ it.kind = 2 ∨ it.kind = 3 ∨ it.kind = 4 ∨ it.kind = 5 ∨ it.kind = 6) := Lib.hid Rs.vld_kind
  have ja0 : CA[0]? = some (.int .i64 it.id) := by rw [← hka]; rfl
  have ja2 : CA[2]? = some (.int .i64 it.kind) := by rw [← hka]; rfl
  have jb0 : CB[0]? = some (.int .i64 a.item) := by rw [← hkb]; rfl
  have jb1 : CB[1]? = some (.slice M.1 a.chs.length M.2) := by rw [← hkb]; rfl
  have jb2 : CB[2]? = some (.int .i64 a.val) := by rw [← hkb]; rfl
  have jb3 : CB[3]? = some (.string a.text) := by rw [← hkb]; rfl
  have jb4 : CB[4]? = some (.bool a.om) := by rw [← hkb]; rfl
  have HI := Lib.hid h
  have HA := Lib.hid ha
  have HG := Lib.hid hg
  have IA := Lib.hid (rs_infoItem hna)
  have htx : a.text.size ≤ 140737488351232 := ha.ok.text
  have hcl : a.chs.length ≤ 17592186043904 := ha.ok.cl
  have HS : Hid (Rs.vla it a = if It.vld it ≠ 0 then It.vld it else Rs.vlP it.id it.kind it.opts.length a.item a.chs a.val a.text a.om) := Lib.hid rfl
  have HSL : Hid (SlI w M.1 a.chs) := Lib.hid ha.c
  have J := Lib.hid (And.intro ja0 (And.intro ja2 (And.intro jb0 (And.intro jb1 (And.intro jb2 (And.intro jb3 jb4))))))
  clear hca hcb hna hnb hka hkb ja0 ja2 jb0 jb1 jb2 jb3 jb4 h ha hg
  obtain ⟨er, her⟩ : ∃ er, It.vld it = er := ⟨_, rfl⟩
  obtain ⟨v, hv⟩ : ∃ v, Rs.vla it a = v := ⟨_, rfl⟩
  rw [hv] at HS ⊢
  rw [her] at HS HVS HV
  clear her hv
  obtain ⟨ai, l, av, tx, om⟩ := a
  obtain ⟨MA, mc⟩ := M
  dsimp only at HS J htx hcl HSL HCH
  obtain ⟨m, hm⟩ : ∃ m, it.opts.length = m := ⟨_, rfl⟩
  obtain ⟨n, hn⟩ : ∃ n, l.length = n := ⟨_, rfl⟩
  obtain ⟨kd, hkd⟩ : ∃ kd, it.kind = kd := ⟨_, rfl⟩
  obtain ⟨id, hid⟩ : ∃ id, it.id = id := ⟨_, rfl⟩
  rw [hm, hkd, hid] at HS
  rw [hkd] at HVS
  rw [hn, hkd, hid] at J
  rw [hn] at hcl
  obtain ⟨ts, hts⟩ : ∃ ts, tx.size = ts := ⟨_, rfl⟩
  have HTS := Lib.hid hts
  clear hts
  have HN := Lib.hid hn
  have HM := Lib.hid hm
  have HKD := Lib.hid hkd
  clear hm hn hkd hid
  go_enter Tryz.func50, Tryz.ntmps50
  go_wp2_with (refine wpList_load_row rfl _ _ rfl w.heap.size rfl _ CA _ _ (two_fst _ _ _) Tryz.underlying55 rfl IA.out ?_)
  have X0 := ((Ext.refl w).alloc (.cells CA 55)).alloc (.cells CB 64)
  with_reducible refine (HV.out _ (HI.out.ext X0) (HG.out _ X0)).mono ?_
  rintro e w1 ⟨rfl, hb1⟩
  have A1 := hb1.blockAt (two_fst w (.cells CA 55) (.cells CB 64))
  have B1 := hb1.blockAt (two_snd w (.cells CA 55) (.cells CB 64))
  have a0 : w1.cell? ⟨w.heap.size, 0, none⟩ = some (.int .i64 id) := (cell_of_row _ _ 0 _ _ _ A1).trans J.out.1
  have a2 : w1.cell? ⟨w.heap.size, 2, none⟩ = some (.int .i64 kd) := (cell_of_row _ _ 2 _ _ _ A1).trans J.out.2.1
  have b0 : w1.cell? ⟨w.heap.size + 1, 0, none⟩ = some (.int .i64 ai) := (cell_of_row _ _ 0 _ _ _ B1).trans J.out.2.2.1
  have b1 : w1.cell? ⟨w.heap.size + 1, 1, none⟩ = some (.slice MA n mc) := (cell_of_row _ _ 1 _ _ _ B1).trans J.out.2.2.2.1
  have b2 : w1.cell? ⟨w.heap.size + 1, 2, none⟩ = some (.int .i64 av) := (cell_of_row _ _ 2 _ _ _ B1).trans J.out.2.2.2.2.1
  have b3 : w1.cell? ⟨w.heap.size + 1, 3, none⟩ = some (.string tx) := (cell_of_row _ _ 3 _ _ _ B1).trans J.out.2.2.2.2.2.1
  have b4 : w1.cell? ⟨w.heap.size + 1, 4, none⟩ = some (.bool om) := (cell_of_row _ _ 4 _ _ _ B1).trans J.out.2.2.2.2.2.2
  have X1 := Lib.hid (X0.trans hb1)
  have BA := Lib.hid A1
  clear hb1 X0 A1 B1 HV
  by_cases he : er = 0
  case neg =>
    have t0 : (er != 0) = true := by rw [bne_iff_ne]; exact he
    have HE := Lib.hid he
    clear he
    have HF : Hid (v = er) := Lib.hid (by rw [HS.out, if_pos HE.out])
    go_wp2
    go_ret
    exact ⟨ret_int HF.out.symm, X1.out⟩
  have hk := HVS.out he
  have t0 : (er != 0) = false := by rw [he]; rfl
  have HS2 : Hid (v = Rs.vlP id kd m ai l av tx om) := Lib.hid (by rw [HS.out, if_neg (fun h => h he)])
  clear he HS HVS
  by_cases hid : ai = id
  case neg =>
    have t1 : (ai != id) = true := by rw [bne_iff_ne]; exact hid
    have HF : Hid (v = 6) := Lib.hid (by rw [HS2.out]; unfold Rs.vlP; rw [if_pos hid])
    clear hid
    go_wp2
    go_ret
    exact ⟨ret_int HF.out.symm, X1.out⟩
  have t1 : (ai != id) = false := by rw [bne_eq_false_iff_eq]; exact hid
  have HID := Lib.hid hid
  clear hid
  cases om with
  | true =>
    by_cases hu : 0 < n ∨ av ≠ 0 ∨ tx.size ≠ 0
    · have HF : Hid (v = 1) := Lib.hid (by
        rw [HS2.out]; unfold Rs.vlP
        rw [if_neg (fun h => h HID.out), HN.out, if_pos (by simp only [Bool.true_or, Bool.and_true, Bool.or_eq_true, decide_eq_true_eq]; omega)])
      rcases (show 0 < n ∨ (n = 0 ∧ av ≠ 0) ∨ (n = 0 ∧ av = 0 ∧ tx.size ≠ 0) by omega) with h1 | ⟨h1, h2⟩ | ⟨h1, h2, h3⟩
      · have q1 : (0 : Int) < (n : Int) := by omega
        go_wp2
        go_ret
        exact ⟨ret_int HF.out.symm, X1.out⟩
      · have q1 : ¬ (0 : Int) < (n : Int) := by omega
        have q2 : (av != 0) = true := by rw [bne_iff_ne]; exact h2
        clear h2 h1 hu
        go_wp2
        go_ret
        exact ⟨ret_int HF.out.symm, X1.out⟩
      · have q1 : ¬ (0 : Int) < (n : Int) := by omega
        have q2 : (av != 0) = false := by rw [bne_eq_false_iff_eq]; exact h2
        obtain ⟨q3, q4⟩ := str_some (s := tx) (by omega)
        clear h2 h1 hu h3
        go_wp2
        go_ret
        exact ⟨ret_int HF.out.symm, X1.out⟩
    · have HF : Hid (v = 0) := Lib.hid (by
        rw [HS2.out]; unfold Rs.vlP
        rw [if_neg (fun h => h HID.out), HN.out, if_neg (by simp only [Bool.true_or, Bool.and_true, Bool.or_eq_true, decide_eq_true_eq]; omega), if_pos rfl])
      have q1 : ¬ (0 : Int) < (n : Int) := by omega
      have q2 : (av != 0) = false := by rw [bne_eq_false_iff_eq]; omega
      have q3 := str_empty (s := tx) (by omega)
      clear hu
      go_wp2
      go_ret
      exact ⟨ret_int HF.out.symm, X1.out⟩
  | false =>
    rcases hk with rfl | rfl | rfl | rfl | rfl | rfl
    · by_cases hu : av ≠ 0 ∨ tx.size ≠ 0
      · have HF : Hid (v = 1) := Lib.hid (by rw [HS2.out]; unfold Rs.vlP; rw [if_neg (fun h => h HID.out), HN.out, Rs.hasC_1, Rs.hasT_1, if_pos (by have hz := HTS.out; rw [hz]; simp <;> omega)])
        rcases (show (0 < n ∧ av ≠ 0) ∨ (0 < n ∧ av = 0 ∧ tx.size ≠ 0) ∨ (n = 0 ∧ av ≠ 0) ∨ (n = 0 ∧ av = 0 ∧ tx.size ≠ 0) by omega) with h1 | h1 | h1 | h1
        · have q1 : (0 : Int) < (n : Int) := by omega
          have q2 : (av != 0) = true := by rw [bne_iff_ne]; omega
          clear h1 hu
          go_wp2_with (first | (go_at_call 84; refine (hasChoices_to _ Rs.hasC_1 _).mono ?_; rintro e w' ⟨rfl, rfl⟩) | (go_at_call 85; refine (hasText_to _ Rs.hasT_1 _).mono ?_; rintro e w' ⟨rfl, rfl⟩))
          go_ret
          exact ⟨ret_int HF.out.symm, X1.out⟩
        · have q1 : (0 : Int) < (n : Int) := by omega
          have q2 : (av != 0) = false := by rw [bne_eq_false_iff_eq]; omega
          obtain ⟨q3, q4⟩ := str_some (s := tx) (by omega)
          clear h1 hu
          go_wp2_with (first | (go_at_call 84; refine (hasChoices_to _ Rs.hasC_1 _).mono ?_; rintro e w' ⟨rfl, rfl⟩) | (go_at_call 85; refine (hasText_to _ Rs.hasT_1 _).mono ?_; rintro e w' ⟨rfl, rfl⟩))
          go_ret
          exact ⟨ret_int HF.out.symm, X1.out⟩
        · have q1 : ¬ (0 : Int) < (n : Int) := by omega
          have q2 : (av != 0) = true := by rw [bne_iff_ne]; omega
          clear h1 hu
          go_wp2_with (first | (go_at_call 84; refine (hasChoices_to _ Rs.hasC_1 _).mono ?_; rintro e w' ⟨rfl, rfl⟩) | (go_at_call 85; refine (hasText_to _ Rs.hasT_1 _).mono ?_; rintro e w' ⟨rfl, rfl⟩))
          go_ret
          exact ⟨ret_int HF.out.symm, X1.out⟩
        · have q1 : ¬ (0 : Int) < (n : Int) := by omega
          have q2 : (av != 0) = false := by rw [bne_eq_false_iff_eq]; omega
          obtain ⟨q3, q4⟩ := str_some (s := tx) (by omega)
          clear h1 hu
          go_wp2_with (first | (go_at_call 84; refine (hasChoices_to _ Rs.hasC_1 _).mono ?_; rintro e w' ⟨rfl, rfl⟩) | (go_at_call 85; refine (hasText_to _ Rs.hasT_1 _).mono ?_; rintro e w' ⟨rfl, rfl⟩))
          go_ret
          exact ⟨ret_int HF.out.symm, X1.out⟩
      · have HG2 : Hid (v = if (4 : Int) = 1 then (if It.wi av (-9999999) 9999999 = true then 0 else 3) else if (5 : Int) = 1 then (if 200 < tx.size then 5 else 0) else if (6 : Int) = 1 then (if 2000 < tx.size then 5 else 0) else Rs.cho 1 m l) := Lib.hid (by rw [HS2.out]; unfold Rs.vlP; rw [if_neg (fun h => h HID.out), HN.out, Rs.hasC_1, Rs.hasT_1, if_neg (by have hz := HTS.out; rw [hz]; simp <;> omega), if_neg (by decide)]; rfl)
        rcases (show (0 < n ∧ av = 0 ∧ tx.size = 0) ∨ (n = 0 ∧ av = 0 ∧ tx.size = 0) by omega) with h1 | h1
        · have q1 : (0 : Int) < (n : Int) := by omega
          have q2 : (av != 0) = false := by rw [bne_eq_false_iff_eq]; omega
          have q3 := str_empty (s := tx) (by omega)
          clear h1 hu
          go_wp2_with (first | (first | (go_at_call 84; refine (hasChoices_to _ Rs.hasC_1 _).mono ?_; rintro e w' ⟨rfl, rfl⟩) | (go_at_call 85; refine (hasText_to _ Rs.hasT_1 _).mono ?_; rintro e w' ⟨rfl, rfl⟩)) | (with_reducible refine wpList_load_row rfl 55 (.tmp 2) rfl w.heap.size (by with_unfolding_all rfl) _ CA _ _ BA.out Tryz.underlying55 rfl IA.out ?_))
          with_reducible refine (HCH.out n m HN.out HM.out (by rw [HKD.out]; decide) hcl (v := v) (by rw [HKD.out, HG2.out, HM.out, if_neg (by decide), if_neg (by decide), if_neg (by decide)]) _ (HSL.out.ext X1.out)).mono ?_
          rintro e w2 ⟨rfl, hb2⟩
          have X2 := Lib.hid (X1.out.trans hb2)
          clear hb2
          go_wp2
          go_ret
          exact ⟨rfl, X2.out⟩
        · have q1 : ¬ (0 : Int) < (n : Int) := by omega
          have q2 : (av != 0) = false := by rw [bne_eq_false_iff_eq]; omega
          have q3 := str_empty (s := tx) (by omega)
          clear h1 hu
          go_wp2_with (first | (first | (go_at_call 84; refine (hasChoices_to _ Rs.hasC_1 _).mono ?_; rintro e w' ⟨rfl, rfl⟩) | (go_at_call 85; refine (hasText_to _ Rs.hasT_1 _).mono ?_; rintro e w' ⟨rfl, rfl⟩)) | (with_reducible refine wpList_load_row rfl 55 (.tmp 2) rfl w.heap.size (by with_unfolding_all rfl) _ CA _ _ BA.out Tryz.underlying55 rfl IA.out ?_))
          with_reducible refine (HCH.out n m HN.out HM.out (by rw [HKD.out]; decide) hcl (v := v) (by rw [HKD.out, HG2.out, HM.out, if_neg (by decide), if_neg (by decide), if_neg (by decide)]) _ (HSL.out.ext X1.out)).mono ?_
          rintro e w2 ⟨rfl, hb2⟩
          have X2 := Lib.hid (X1.out.trans hb2)
          clear hb2
          go_wp2
          go_ret
          exact ⟨rfl, X2.out⟩
    · by_cases hu : av ≠ 0 ∨ tx.size ≠ 0
      · have HF : Hid (v = 1) := Lib.hid (by rw [HS2.out]; unfold Rs.vlP; rw [if_neg (fun h => h HID.out), HN.out, Rs.hasC_2, Rs.hasT_2, if_pos (by have hz := HTS.out; rw [hz]; simp <;> omega)])
        rcases (show (0 < n ∧ av ≠ 0) ∨ (0 < n ∧ av = 0 ∧ tx.size ≠ 0) ∨ (n = 0 ∧ av ≠ 0) ∨ (n = 0 ∧ av = 0 ∧ tx.size ≠ 0) by omega) with h1 | h1 | h1 | h1
        · have q1 : (0 : Int) < (n : Int) := by omega
          have q2 : (av != 0) = true := by rw [bne_iff_ne]; omega
          clear h1 hu
          go_wp2_with (first | (go_at_call 84; refine (hasChoices_to _ Rs.hasC_2 _).mono ?_; rintro e w' ⟨rfl, rfl⟩) | (go_at_call 85; refine (hasText_to _ Rs.hasT_2 _).mono ?_; rintro e w' ⟨rfl, rfl⟩))
          go_ret
          exact ⟨ret_int HF.out.symm, X1.out⟩
        · have q1 : (0 : Int) < (n : Int) := by omega
          have q2 : (av != 0) = false := by rw [bne_eq_false_iff_eq]; omega
          obtain ⟨q3, q4⟩ := str_some (s := tx) (by omega)
          clear h1 hu
          go_wp2_with (first | (go_at_call 84; refine (hasChoices_to _ Rs.hasC_2 _).mono ?_; rintro e w' ⟨rfl, rfl⟩) | (go_at_call 85; refine (hasText_to _ Rs.hasT_2 _).mono ?_; rintro e w' ⟨rfl, rfl⟩))
          go_ret
          exact ⟨ret_int HF.out.symm, X1.out⟩
        · have q1 : ¬ (0 : Int) < (n : Int) := by omega
          have q2 : (av != 0) = true := by rw [bne_iff_ne]; omega
          clear h1 hu
          go_wp2_with (first | (go_at_call 84; refine (hasChoices_to _ Rs.hasC_2 _).mono ?_; rintro e w' ⟨rfl, rfl⟩) | (go_at_call 85; refine (hasText_to _ Rs.hasT_2 _).mono ?_; rintro e w' ⟨rfl, rfl⟩))
          go_ret
          exact ⟨ret_int HF.out.symm, X1.out⟩
        · have q1 : ¬ (0 : Int) < (n : Int) := by omega
          have q2 : (av != 0) = false := by rw [bne_eq_false_iff_eq]; omega
          obtain ⟨q3, q4⟩ := str_some (s := tx) (by omega)
          clear h1 hu
          go_wp2_with (first | (go_at_call 84; refine (hasChoices_to _ Rs.hasC_2 _).mono ?_; rintro e w' ⟨rfl, rfl⟩) | (go_at_call 85; refine (hasText_to _ Rs.hasT_2 _).mono ?_; rintro e w' ⟨rfl, rfl⟩))
          go_ret
          exact ⟨ret_int HF.out.symm, X1.out⟩
      · have HG2 : Hid (v = if (4 : Int) = 2 then (if It.wi av (-9999999) 9999999 = true then 0 else 3) else if (5 : Int) = 2 then (if 200 < tx.size then 5 else 0) else if (6 : Int) = 2 then (if 2000 < tx.size then 5 else 0) else Rs.cho 2 m l) := Lib.hid (by rw [HS2.out]; unfold Rs.vlP; rw [if_neg (fun h => h HID.out), HN.out, Rs.hasC_2, Rs.hasT_2, if_neg (by have hz := HTS.out; rw [hz]; simp <;> omega), if_neg (by decide)]; rfl)
        rcases (show (0 < n ∧ av = 0 ∧ tx.size = 0) ∨ (n = 0 ∧ av = 0 ∧ tx.size = 0) by omega) with h1 | h1
        · have q1 : (0 : Int) < (n : Int) := by omega
          have q2 : (av != 0) = false := by rw [bne_eq_false_iff_eq]; omega
          have q3 := str_empty (s := tx) (by omega)
          clear h1 hu
          go_wp2_with (first | (first | (go_at_call 84; refine (hasChoices_to _ Rs.hasC_2 _).mono ?_; rintro e w' ⟨rfl, rfl⟩) | (go_at_call 85; refine (hasText_to _ Rs.hasT_2 _).mono ?_; rintro e w' ⟨rfl, rfl⟩)) | (with_reducible refine wpList_load_row rfl 55 (.tmp 2) rfl w.heap.size (by with_unfolding_all rfl) _ CA _ _ BA.out Tryz.underlying55 rfl IA.out ?_))
          with_reducible refine (HCH.out n m HN.out HM.out (by rw [HKD.out]; decide) hcl (v := v) (by rw [HKD.out, HG2.out, HM.out, if_neg (by decide), if_neg (by decide), if_neg (by decide)]) _ (HSL.out.ext X1.out)).mono ?_
          rintro e w2 ⟨rfl, hb2⟩
          have X2 := Lib.hid (X1.out.trans hb2)
          clear hb2
          go_wp2
          go_ret
          exact ⟨rfl, X2.out⟩
        · have q1 : ¬ (0 : Int) < (n : Int) := by omega
          have q2 : (av != 0) = false := by rw [bne_eq_false_iff_eq]; omega
          have q3 := str_empty (s := tx) (by omega)
          clear h1 hu
          go_wp2_with (first | (first | (go_at_call 84; refine (hasChoices_to _ Rs.hasC_2 _).mono ?_; rintro e w' ⟨rfl, rfl⟩) | (go_at_call 85; refine (hasText_to _ Rs.hasT_2 _).mono ?_; rintro e w' ⟨rfl, rfl⟩)) | (with_reducible refine wpList_load_row rfl 55 (.tmp 2) rfl w.heap.size (by with_unfolding_all rfl) _ CA _ _ BA.out Tryz.underlying55 rfl IA.out ?_))
          with_reducible refine (HCH.out n m HN.out HM.out (by rw [HKD.out]; decide) hcl (v := v) (by rw [HKD.out, HG2.out, HM.out, if_neg (by decide), if_neg (by decide), if_neg (by decide)]) _ (HSL.out.ext X1.out)).mono ?_
          rintro e w2 ⟨rfl, hb2⟩
          have X2 := Lib.hid (X1.out.trans hb2)
          clear hb2
          go_wp2
          go_ret
          exact ⟨rfl, X2.out⟩
    · by_cases hu : av ≠ 0 ∨ tx.size ≠ 0
      · have HF : Hid (v = 1) := Lib.hid (by rw [HS2.out]; unfold Rs.vlP; rw [if_neg (fun h => h HID.out), HN.out, Rs.hasC_3, Rs.hasT_3, if_pos (by have hz := HTS.out; rw [hz]; simp <;> omega)])
        rcases (show (0 < n ∧ av ≠ 0) ∨ (0 < n ∧ av = 0 ∧ tx.size ≠ 0) ∨ (n = 0 ∧ av ≠ 0) ∨ (n = 0 ∧ av = 0 ∧ tx.size ≠ 0) by omega) with h1 | h1 | h1 | h1
        · have q1 : (0 : Int) < (n : Int) := by omega
          have q2 : (av != 0) = true := by rw [bne_iff_ne]; omega
          clear h1 hu
          go_wp2_with (first | (go_at_call 84; refine (hasChoices_to _ Rs.hasC_3 _).mono ?_; rintro e w' ⟨rfl, rfl⟩) | (go_at_call 85; refine (hasText_to _ Rs.hasT_3 _).mono ?_; rintro e w' ⟨rfl, rfl⟩))
          go_ret
          exact ⟨ret_int HF.out.symm, X1.out⟩
        · have q1 : (0 : Int) < (n : Int) := by omega
          have q2 : (av != 0) = false := by rw [bne_eq_false_iff_eq]; omega
          obtain ⟨q3, q4⟩ := str_some (s := tx) (by omega)
          clear h1 hu
          go_wp2_with (first | (go_at_call 84; refine (hasChoices_to _ Rs.hasC_3 _).mono ?_; rintro e w' ⟨rfl, rfl⟩) | (go_at_call 85; refine (hasText_to _ Rs.hasT_3 _).mono ?_; rintro e w' ⟨rfl, rfl⟩))
          go_ret
          exact ⟨ret_int HF.out.symm, X1.out⟩
        · have q1 : ¬ (0 : Int) < (n : Int) := by omega
          have q2 : (av != 0) = true := by rw [bne_iff_ne]; omega
          clear h1 hu
          go_wp2_with (first | (go_at_call 84; refine (hasChoices_to _ Rs.hasC_3 _).mono ?_; rintro e w' ⟨rfl, rfl⟩) | (go_at_call 85; refine (hasText_to _ Rs.hasT_3 _).mono ?_; rintro e w' ⟨rfl, rfl⟩))
          go_ret
          exact ⟨ret_int HF.out.symm, X1.out⟩
        · have q1 : ¬ (0 : Int) < (n : Int) := by omega
          have q2 : (av != 0) = false := by rw [bne_eq_false_iff_eq]; omega
          obtain ⟨q3, q4⟩ := str_some (s := tx) (by omega)
          clear h1 hu
          go_wp2_with (first | (go_at_call 84; refine (hasChoices_to _ Rs.hasC_3 _).mono ?_; rintro e w' ⟨rfl, rfl⟩) | (go_at_call 85; refine (hasText_to _ Rs.hasT_3 _).mono ?_; rintro e w' ⟨rfl, rfl⟩))
          go_ret
          exact ⟨ret_int HF.out.symm, X1.out⟩
      · have HG2 : Hid (v = if (4 : Int) = 3 then (if It.wi av (-9999999) 9999999 = true then 0 else 3) else if (5 : Int) = 3 then (if 200 < tx.size then 5 else 0) else if (6 : Int) = 3 then (if 2000 < tx.size then 5 else 0) else Rs.cho 3 m l) := Lib.hid (by rw [HS2.out]; unfold Rs.vlP; rw [if_neg (fun h => h HID.out), HN.out, Rs.hasC_3, Rs.hasT_3, if_neg (by have hz := HTS.out; rw [hz]; simp <;> omega), if_neg (by decide)]; rfl)
        rcases (show (0 < n ∧ av = 0 ∧ tx.size = 0) ∨ (n = 0 ∧ av = 0 ∧ tx.size = 0) by omega) with h1 | h1
        · have q1 : (0 : Int) < (n : Int) := by omega
          have q2 : (av != 0) = false := by rw [bne_eq_false_iff_eq]; omega
          have q3 := str_empty (s := tx) (by omega)
          clear h1 hu
          go_wp2_with (first | (first | (go_at_call 84; refine (hasChoices_to _ Rs.hasC_3 _).mono ?_; rintro e w' ⟨rfl, rfl⟩) | (go_at_call 85; refine (hasText_to _ Rs.hasT_3 _).mono ?_; rintro e w' ⟨rfl, rfl⟩)) | (with_reducible refine wpList_load_row rfl 55 (.tmp 2) rfl w.heap.size (by with_unfolding_all rfl) _ CA _ _ BA.out Tryz.underlying55 rfl IA.out ?_))
          with_reducible refine (HCH.out n m HN.out HM.out (by rw [HKD.out]; decide) hcl (v := v) (by rw [HKD.out, HG2.out, HM.out, if_neg (by decide), if_neg (by decide), if_neg (by decide)]) _ (HSL.out.ext X1.out)).mono ?_
          rintro e w2 ⟨rfl, hb2⟩
          have X2 := Lib.hid (X1.out.trans hb2)
          clear hb2
          go_wp2
          go_ret
          exact ⟨rfl, X2.out⟩
        · have q1 : ¬ (0 : Int) < (n : Int) := by omega
          have q2 : (av != 0) = false := by rw [bne_eq_false_iff_eq]; omega
          have q3 := str_empty (s := tx) (by omega)
          clear h1 hu
          go_wp2_with (first | (first | (go_at_call 84; refine (hasChoices_to _ Rs.hasC_3 _).mono ?_; rintro e w' ⟨rfl, rfl⟩) | (go_at_call 85; refine (hasText_to _ Rs.hasT_3 _).mono ?_; rintro e w' ⟨rfl, rfl⟩)) | (with_reducible refine wpList_load_row rfl 55 (.tmp 2) rfl w.heap.size (by with_unfolding_all rfl) _ CA _ _ BA.out Tryz.underlying55 rfl IA.out ?_))
          with_reducible refine (HCH.out n m HN.out HM.out (by rw [HKD.out]; decide) hcl (v := v) (by rw [HKD.out, HG2.out, HM.out, if_neg (by decide), if_neg (by decide), if_neg (by decide)]) _ (HSL.out.ext X1.out)).mono ?_
          rintro e w2 ⟨rfl, hb2⟩
          have X2 := Lib.hid (X1.out.trans hb2)
          clear hb2
          go_wp2
          go_ret
          exact ⟨rfl, X2.out⟩
    · by_cases hu : 0 < n ∨ tx.size ≠ 0
      · have HF : Hid (v = 1) := Lib.hid (by rw [HS2.out]; unfold Rs.vlP; rw [if_neg (fun h => h HID.out), HN.out, Rs.hasC_4, Rs.hasT_4, if_pos (by have hz := HTS.out; rw [hz]; simp <;> omega)])
        rcases (show (0 < n) ∨ (n = 0 ∧ av ≠ 0 ∧ tx.size ≠ 0) ∨ (n = 0 ∧ av = 0 ∧ tx.size ≠ 0) by omega) with h1 | h1 | h1
        · have q1 : (0 : Int) < (n : Int) := by omega
          clear h1 hu
          go_wp2_with (first | (go_at_call 84; refine (hasChoices_to _ Rs.hasC_4 _).mono ?_; rintro e w' ⟨rfl, rfl⟩) | (go_at_call 85; refine (hasText_to _ Rs.hasT_4 _).mono ?_; rintro e w' ⟨rfl, rfl⟩))
          go_ret
          exact ⟨ret_int HF.out.symm, X1.out⟩
        · have q1 : ¬ (0 : Int) < (n : Int) := by omega
          have q2 : (av != 0) = true := by rw [bne_iff_ne]; omega
          obtain ⟨q3, q4⟩ := str_some (s := tx) (by omega)
          clear h1 hu
          go_wp2_with (first | (go_at_call 84; refine (hasChoices_to _ Rs.hasC_4 _).mono ?_; rintro e w' ⟨rfl, rfl⟩) | (go_at_call 85; refine (hasText_to _ Rs.hasT_4 _).mono ?_; rintro e w' ⟨rfl, rfl⟩))
          go_ret
          exact ⟨ret_int HF.out.symm, X1.out⟩
        · have q1 : ¬ (0 : Int) < (n : Int) := by omega
          have q2 : (av != 0) = false := by rw [bne_eq_false_iff_eq]; omega
          obtain ⟨q3, q4⟩ := str_some (s := tx) (by omega)
          clear h1 hu
          go_wp2_with (first | (go_at_call 84; refine (hasChoices_to _ Rs.hasC_4 _).mono ?_; rintro e w' ⟨rfl, rfl⟩) | (go_at_call 85; refine (hasText_to _ Rs.hasT_4 _).mono ?_; rintro e w' ⟨rfl, rfl⟩))
          go_ret
          exact ⟨ret_int HF.out.symm, X1.out⟩
      · have HG2 : Hid (v = if (4 : Int) = 4 then (if It.wi av (-9999999) 9999999 = true then 0 else 3) else if (5 : Int) = 4 then (if 200 < tx.size then 5 else 0) else if (6 : Int) = 4 then (if 2000 < tx.size then 5 else 0) else Rs.cho 4 m l) := Lib.hid (by rw [HS2.out]; unfold Rs.vlP; rw [if_neg (fun h => h HID.out), HN.out, Rs.hasC_4, Rs.hasT_4, if_neg (by have hz := HTS.out; rw [hz]; simp <;> omega), if_neg (by decide)]; rfl)
        rcases (show (n = 0 ∧ av ≠ 0 ∧ tx.size = 0) ∨ (n = 0 ∧ av = 0 ∧ tx.size = 0) by omega) with h1 | h1
        · have q1 : ¬ (0 : Int) < (n : Int) := by omega
          have q2 : (av != 0) = true := by rw [bne_iff_ne]; omega
          have q3 := str_empty (s := tx) (by omega)
          clear h1 hu
          rcases (show av < -9999999 ∨ (-9999999 ≤ av ∧ 9999999 < av) ∨ (-9999999 ≤ av ∧ av ≤ 9999999) by omega) with h2 | ⟨h2, h3⟩ | ⟨h2, h3⟩
          · have HF : Hid (v = 3) := Lib.hid (by rw [HG2.out, if_pos rfl, if_neg (by rw [It.wi_iff]; omega)])
            go_wp2_with (first | (go_at_call 84; refine (hasChoices_to _ Rs.hasC_4 _).mono ?_; rintro e w' ⟨rfl, rfl⟩) | (go_at_call 85; refine (hasText_to _ Rs.hasT_4 _).mono ?_; rintro e w' ⟨rfl, rfl⟩))
            go_ret
            exact ⟨ret_int HF.out.symm, X1.out⟩
          · have HF : Hid (v = 3) := Lib.hid (by rw [HG2.out, if_pos rfl, if_neg (by rw [It.wi_iff]; omega)])
            go_wp2_with (first | (go_at_call 84; refine (hasChoices_to _ Rs.hasC_4 _).mono ?_; rintro e w' ⟨rfl, rfl⟩) | (go_at_call 85; refine (hasText_to _ Rs.hasT_4 _).mono ?_; rintro e w' ⟨rfl, rfl⟩))
            go_ret
            exact ⟨ret_int HF.out.symm, X1.out⟩
          · have HF : Hid (v = 0) := Lib.hid (by rw [HG2.out, if_pos rfl, if_pos (by rw [It.wi_iff]; omega)])
            go_wp2_with (first | (go_at_call 84; refine (hasChoices_to _ Rs.hasC_4 _).mono ?_; rintro e w' ⟨rfl, rfl⟩) | (go_at_call 85; refine (hasText_to _ Rs.hasT_4 _).mono ?_; rintro e w' ⟨rfl, rfl⟩))
            go_ret
            exact ⟨ret_int HF.out.symm, X1.out⟩
        · have q1 : ¬ (0 : Int) < (n : Int) := by omega
          have q2 : (av != 0) = false := by rw [bne_eq_false_iff_eq]; omega
          have q3 := str_empty (s := tx) (by omega)
          clear h1 hu
          rcases (show av < -9999999 ∨ (-9999999 ≤ av ∧ 9999999 < av) ∨ (-9999999 ≤ av ∧ av ≤ 9999999) by omega) with h2 | ⟨h2, h3⟩ | ⟨h2, h3⟩
          · have HF : Hid (v = 3) := Lib.hid (by rw [HG2.out, if_pos rfl, if_neg (by rw [It.wi_iff]; omega)])
            go_wp2_with (first | (go_at_call 84; refine (hasChoices_to _ Rs.hasC_4 _).mono ?_; rintro e w' ⟨rfl, rfl⟩) | (go_at_call 85; refine (hasText_to _ Rs.hasT_4 _).mono ?_; rintro e w' ⟨rfl, rfl⟩))
            go_ret
            exact ⟨ret_int HF.out.symm, X1.out⟩
          · have HF : Hid (v = 3) := Lib.hid (by rw [HG2.out, if_pos rfl, if_neg (by rw [It.wi_iff]; omega)])
            go_wp2_with (first | (go_at_call 84; refine (hasChoices_to _ Rs.hasC_4 _).mono ?_; rintro e w' ⟨rfl, rfl⟩) | (go_at_call 85; refine (hasText_to _ Rs.hasT_4 _).mono ?_; rintro e w' ⟨rfl, rfl⟩))
            go_ret
            exact ⟨ret_int HF.out.symm, X1.out⟩
          · have HF : Hid (v = 0) := Lib.hid (by rw [HG2.out, if_pos rfl, if_pos (by rw [It.wi_iff]; omega)])
            go_wp2_with (first | (go_at_call 84; refine (hasChoices_to _ Rs.hasC_4 _).mono ?_; rintro e w' ⟨rfl, rfl⟩) | (go_at_call 85; refine (hasText_to _ Rs.hasT_4 _).mono ?_; rintro e w' ⟨rfl, rfl⟩))
            go_ret
            exact ⟨ret_int HF.out.symm, X1.out⟩
    · by_cases hu : 0 < n ∨ av ≠ 0
      · have HF : Hid (v = 1) := Lib.hid (by rw [HS2.out]; unfold Rs.vlP; rw [if_neg (fun h => h HID.out), HN.out, Rs.hasC_5, Rs.hasT_5, if_pos (by have hz := HTS.out; rw [hz]; simp <;> omega)])
        rcases (show (0 < n) ∨ (n = 0 ∧ av ≠ 0) by omega) with h1 | h1
        · have q1 : (0 : Int) < (n : Int) := by omega
          clear h1 hu
          go_wp2_with (first | (go_at_call 84; refine (hasChoices_to _ Rs.hasC_5 _).mono ?_; rintro e w' ⟨rfl, rfl⟩) | (go_at_call 85; refine (hasText_to _ Rs.hasT_5 _).mono ?_; rintro e w' ⟨rfl, rfl⟩))
          go_ret
          exact ⟨ret_int HF.out.symm, X1.out⟩
        · have q1 : ¬ (0 : Int) < (n : Int) := by omega
          have q2 : (av != 0) = true := by rw [bne_iff_ne]; omega
          clear h1 hu
          go_wp2_with (first | (go_at_call 84; refine (hasChoices_to _ Rs.hasC_5 _).mono ?_; rintro e w' ⟨rfl, rfl⟩) | (go_at_call 85; refine (hasText_to _ Rs.hasT_5 _).mono ?_; rintro e w' ⟨rfl, rfl⟩))
          go_ret
          exact ⟨ret_int HF.out.symm, X1.out⟩
      · have HG2 : Hid (v = if (4 : Int) = 5 then (if It.wi av (-9999999) 9999999 = true then 0 else 3) else if (5 : Int) = 5 then (if 200 < tx.size then 5 else 0) else if (6 : Int) = 5 then (if 2000 < tx.size then 5 else 0) else Rs.cho 5 m l) := Lib.hid (by rw [HS2.out]; unfold Rs.vlP; rw [if_neg (fun h => h HID.out), HN.out, Rs.hasC_5, Rs.hasT_5, if_neg (by have hz := HTS.out; rw [hz]; simp <;> omega), if_neg (by decide)]; rfl)
        rcases (show (n = 0 ∧ av = 0 ∧ tx.size ≠ 0) ∨ (n = 0 ∧ av = 0 ∧ tx.size = 0) by omega) with h1 | h1
        · have q1 : ¬ (0 : Int) < (n : Int) := by omega
          have q2 : (av != 0) = false := by rw [bne_eq_false_iff_eq]; omega
          obtain ⟨q3, q4⟩ := str_some (s := tx) (by omega)
          clear h1 hu
          by_cases h2 : 200 < tx.size
          · have HF : Hid (v = 5) := Lib.hid (by rw [HG2.out, if_neg (by decide), if_pos rfl, if_pos h2])
            go_wp2_with (first | (go_at_call 84; refine (hasChoices_to _ Rs.hasC_5 _).mono ?_; rintro e w' ⟨rfl, rfl⟩) | (go_at_call 85; refine (hasText_to _ Rs.hasT_5 _).mono ?_; rintro e w' ⟨rfl, rfl⟩))
            go_ret
            exact ⟨ret_int HF.out.symm, X1.out⟩
          · have HF : Hid (v = 0) := Lib.hid (by rw [HG2.out, if_neg (by decide), if_pos rfl, if_neg h2])
            go_wp2_with (first | (go_at_call 84; refine (hasChoices_to _ Rs.hasC_5 _).mono ?_; rintro e w' ⟨rfl, rfl⟩) | (go_at_call 85; refine (hasText_to _ Rs.hasT_5 _).mono ?_; rintro e w' ⟨rfl, rfl⟩))
            go_ret
            exact ⟨ret_int HF.out.symm, X1.out⟩
        · have q1 : ¬ (0 : Int) < (n : Int) := by omega
          have q2 : (av != 0) = false := by rw [bne_eq_false_iff_eq]; omega
          have q3 := str_empty (s := tx) (by omega)
          clear h1 hu
          by_cases h2 : 200 < tx.size
          · have HF : Hid (v = 5) := Lib.hid (by rw [HG2.out, if_neg (by decide), if_pos rfl, if_pos h2])
            go_wp2_with (first | (go_at_call 84; refine (hasChoices_to _ Rs.hasC_5 _).mono ?_; rintro e w' ⟨rfl, rfl⟩) | (go_at_call 85; refine (hasText_to _ Rs.hasT_5 _).mono ?_; rintro e w' ⟨rfl, rfl⟩))
            go_ret
            exact ⟨ret_int HF.out.symm, X1.out⟩
          · have HF : Hid (v = 0) := Lib.hid (by rw [HG2.out, if_neg (by decide), if_pos rfl, if_neg h2])
            go_wp2_with (first | (go_at_call 84; refine (hasChoices_to _ Rs.hasC_5 _).mono ?_; rintro e w' ⟨rfl, rfl⟩) | (go_at_call 85; refine (hasText_to _ Rs.hasT_5 _).mono ?_; rintro e w' ⟨rfl, rfl⟩))
            go_ret
            exact ⟨ret_int HF.out.symm, X1.out⟩
    · by_cases hu : 0 < n ∨ av ≠ 0
      · have HF : Hid (v = 1) := Lib.hid (by rw [HS2.out]; unfold Rs.vlP; rw [if_neg (fun h => h HID.out), HN.out, Rs.hasC_6, Rs.hasT_6, if_pos (by have hz := HTS.out; rw [hz]; simp <;> omega)])
        rcases (show (0 < n) ∨ (n = 0 ∧ av ≠ 0) by omega) with h1 | h1
        · have q1 : (0 : Int) < (n : Int) := by omega
          clear h1 hu
          go_wp2_with (first | (go_at_call 84; refine (hasChoices_to _ Rs.hasC_6 _).mono ?_; rintro e w' ⟨rfl, rfl⟩) | (go_at_call 85; refine (hasText_to _ Rs.hasT_6 _).mono ?_; rintro e w' ⟨rfl, rfl⟩))
          go_ret
          exact ⟨ret_int HF.out.symm, X1.out⟩
        · have q1 : ¬ (0 : Int) < (n : Int) := by omega
          have q2 : (av != 0) = true := by rw [bne_iff_ne]; omega
          clear h1 hu
          go_wp2_with (first | (go_at_call 84; refine (hasChoices_to _ Rs.hasC_6 _).mono ?_; rintro e w' ⟨rfl, rfl⟩) | (go_at_call 85; refine (hasText_to _ Rs.hasT_6 _).mono ?_; rintro e w' ⟨rfl, rfl⟩))
          go_ret
          exact ⟨ret_int HF.out.symm, X1.out⟩
      · have HG2 : Hid (v = if (4 : Int) = 6 then (if It.wi av (-9999999) 9999999 = true then 0 else 3) else if (5 : Int) = 6 then (if 200 < tx.size then 5 else 0) else if (6 : Int) = 6 then (if 2000 < tx.size then 5 else 0) else Rs.cho 6 m l) := Lib.hid (by rw [HS2.out]; unfold Rs.vlP; rw [if_neg (fun h => h HID.out), HN.out, Rs.hasC_6, Rs.hasT_6, if_neg (by have hz := HTS.out; rw [hz]; simp <;> omega), if_neg (by decide)]; rfl)
        rcases (show (n = 0 ∧ av = 0 ∧ tx.size ≠ 0) ∨ (n = 0 ∧ av = 0 ∧ tx.size = 0) by omega) with h1 | h1
        · have q1 : ¬ (0 : Int) < (n : Int) := by omega
          have q2 : (av != 0) = false := by rw [bne_eq_false_iff_eq]; omega
          obtain ⟨q3, q4⟩ := str_some (s := tx) (by omega)
          clear h1 hu
          by_cases h2 : 2000 < tx.size
          · have HF : Hid (v = 5) := Lib.hid (by rw [HG2.out, if_neg (by decide), if_neg (by decide), if_pos rfl, if_pos h2])
            go_wp2_with (first | (go_at_call 84; refine (hasChoices_to _ Rs.hasC_6 _).mono ?_; rintro e w' ⟨rfl, rfl⟩) | (go_at_call 85; refine (hasText_to _ Rs.hasT_6 _).mono ?_; rintro e w' ⟨rfl, rfl⟩))
            go_ret
            exact ⟨ret_int HF.out.symm, X1.out⟩
          · have HF : Hid (v = 0) := Lib.hid (by rw [HG2.out, if_neg (by decide), if_neg (by decide), if_pos rfl, if_neg h2])
            go_wp2_with (first | (go_at_call 84; refine (hasChoices_to _ Rs.hasC_6 _).mono ?_; rintro e w' ⟨rfl, rfl⟩) | (go_at_call 85; refine (hasText_to _ Rs.hasT_6 _).mono ?_; rintro e w' ⟨rfl, rfl⟩))
            go_ret
            exact ⟨ret_int HF.out.symm, X1.out⟩
        · have q1 : ¬ (0 : Int) < (n : Int) := by omega
          have q2 : (av != 0) = false := by rw [bne_eq_false_iff_eq]; omega
          have q3 := str_empty (s := tx) (by omega)
          clear h1 hu
          by_cases h2 : 2000 < tx.size
          · have HF : Hid (v = 5) := Lib.hid (by rw [HG2.out, if_neg (by decide), if_neg (by decide), if_pos rfl, if_pos h2])
            go_wp2_with (first | (go_at_call 84; refine (hasChoices_to _ Rs.hasC_6 _).mono ?_; rintro e w' ⟨rfl, rfl⟩) | (go_at_call 85; refine (hasText_to _ Rs.hasT_6 _).mono ?_; rintro e w' ⟨rfl, rfl⟩))
            go_ret
            exact ⟨ret_int HF.out.symm, X1.out⟩
          · have HF : Hid (v = 0) := Lib.hid (by rw [HG2.out, if_neg (by decide), if_neg (by decide), if_pos rfl, if_neg h2])
            go_wp2_with (first | (go_at_call 84; refine (hasChoices_to _ Rs.hasC_6 _).mono ?_; rintro e w' ⟨rfl, rfl⟩) | (go_at_call 85; refine (hasText_to _ Rs.hasT_6 _).mono ?_; rintro e w' ⟨rfl, rfl⟩))
            go_ret
            exact ⟨ret_int HF.out.symm, X1.out⟩
end Go.Proofs.YtgaepmddbjdhfaaGreatDoor
