/- Lost, Worst, Hold and Counts of the reference: contracts. Conditions: those of each theorem. -/
import Derived.Test.YtcpapnnghclbmaaDoorInF
namespace Go.Proofs.YtcpapnnghclbmaaDoor
open Go.RowKit

set_option maxRecDepth 100000 in
set_option maxHeartbeats 3200000 in
theorem rlost_any (A : Option Addr) (c : Nat) (ps : List In.Inc) (most : Int) (w : World) (h : (⟨A, c, ps⟩ : NL).In w) :
    Calls Tryd.prog 17 #[.slice A ps.length c, .int .i64 most] w fun e w' => e = .returned (.tuple #[.int .i64 (In.lostV ps most), .int .i64 (In.chk ps)]) ∧ Ext w w' := by
  have hl : ps.length ≤ maxLen := Nat.le_trans h.2.1 h.2.2.1
  have H := Lib.hid h.1
  clear h
  obtain ⟨n, hn⟩ : ∃ n, ps.length = n := ⟨_, rfl⟩
  rw [hn] at hl ⊢
  have HN := Lib.hid hn
  clear hn
  obtain ⟨er, her⟩ : ∃ v, In.chk ps = v := ⟨_, rfl⟩
  have HE := Lib.hid her
  clear her
  by_cases z : er = 0
  · have z' : (er != 0) = false := by rw [z]; rfl
    have HC : Hid (In.chk ps = 0) := Lib.hid (by rw [HE.out, z])
    clear z
    have hn3 : n ≤ 300 := by rw [← HN.out]; exact (In.chk_zero.1 HC.out).1
    have HV : Hid (∀ p ∈ ps, In.vld p = 0) := Lib.hid (In.chk_zero.1 HC.out).2
    go_enter Tryd.func17, Tryd.ntmps17
    go_wp2_with fail
    refine (rlist_to A c ps HN.out HE.out _ H.out hl).mono ?_
    rintro e w1 ⟨rfl, hb1⟩
    go_wp2_with fail
    go_loopw [8, 7] (fun i t wr => ∃ k : Nat, k ≤ n ∧ i = .int .i64 k ∧ ∃ s : Int, t = .int .i64 s ∧ In.lsum (ps.take k) = s ∧ 0 ≤ s ∧ s ≤ 86400 * (k : Int) ∧ Ext w1 wr) (fun i _ _ => n - (intOf i).toNat)
    case atStart => exact ⟨0, by omega, rfl, 0, rfl, rfl, by omega, by omega, Ext.refl _⟩
    case round =>
      obtain ⟨k, hk, rfl, s, rfl, hls, hs0, hs1, he⟩ := hrel
      have HLS := Lib.hid hls
      clear hls
      by_cases hlt : k < n
      · obtain ⟨p, hp⟩ : ∃ p, ps[k]? = some p := ⟨ps[k]'(by rw [HN.out]; exact hlt), List.getElem?_eq_getElem _⟩
        obtain ⟨b, off, rfl, hb, c0, c1, c2, c3⟩ := (H.out.ext (hb1.trans he)).at_ hp
        have hv := In.vld_zero.1 (HV.out p (List.mem_of_getElem? hp))
        obtain ⟨p1, p2, p3, p4⟩ := p
        simp only at c0 c1 c2 c3 hv
        obtain ⟨⟨v1, v2⟩, ⟨v3, v4⟩, ⟨v5, v6⟩, ⟨v7, v8⟩⟩ := hv
        have HP := Lib.hid hp
        clear hp
        have ki0 : (0 : Int) ≤ (k : Int) := by omega
        have ki1 : (k : Int) < (n : Int) := by omega
        by_cases hc : p1 ≤ 3
        · have HS : Hid (In.lsum (ps.take (k + 1)) = s + p3) := Lib.hid (by rw [In.lsum_step HP.out, HLS.out, if_pos hc])
          have hs1' : s + p3 ≤ 86400 * ((k + 1 : Nat) : Int) := by omega
          have hs0' : 0 ≤ s + p3 := by omega
          go_wp2
          go_roundw
          case rel => exact ⟨k + 1, by omega, by go_num, _, rfl, HS.out, hs0', hs1', he⟩
          case measure => simp [intOf]; omega
        · have HS : Hid (In.lsum (ps.take (k + 1)) = s) := Lib.hid (by rw [In.lsum_step HP.out, HLS.out, if_neg hc]; omega)
          have hs1' : s ≤ 86400 * ((k + 1 : Nat) : Int) := by omega
          have hs0' : 0 ≤ s := by omega
          go_wp2
          go_roundw
          case rel => exact ⟨k + 1, by omega, by go_num, _, rfl, HS.out, hs0', hs1', he⟩
          case measure => simp [intOf]; omega
      · have HF : Hid (In.lostV ps most = min s (max most 0)) := Lib.hid (by
          unfold In.lostV
          rw [if_neg (by rw [HC.out]; simp), ← HLS.out, List.take_of_length_le (by rw [HN.out]; omega)])
        go_wp2
        all_goals
          go_ret2
          exact ⟨ret_two (by rw [HF.out] <;> omega) HC.out.symm, hb1.trans he⟩
  · have z' : (er != 0) = true := by rw [bne_iff_ne]; exact z
    have HR : Hid (In.chk ps ≠ 0) := Lib.hid (by rw [HE.out]; exact z)
    clear z
    go_enter Tryd.func17, Tryd.ntmps17
    go_wp2_with fail
    refine (rlist_to A c ps HN.out HE.out _ H.out hl).mono ?_
    rintro e w1 ⟨rfl, hb1⟩
    go_wp2
    go_ret2
    exact ⟨ret_two (by unfold In.lostV; rw [if_pos HR.out]) HE.out.symm, hb1⟩

set_option maxRecDepth 100000 in
set_option maxHeartbeats 3200000 in
theorem rworst_any (A : Option Addr) (c : Nat) (ps : List In.Inc) (w : World) (h : (⟨A, c, ps⟩ : NL).In w) :
    Calls Tryd.prog 19 #[.slice A ps.length c] w fun e w' => e = .returned (.tuple #[.int .i64 (In.worstV ps), .int .i64 (In.chk ps)]) ∧ Ext w w' := by
  have hl : ps.length ≤ maxLen := Nat.le_trans h.2.1 h.2.2.1
  have H := Lib.hid h.1
  clear h
  obtain ⟨n, hn⟩ : ∃ n, ps.length = n := ⟨_, rfl⟩
  rw [hn] at hl ⊢
  have HN := Lib.hid hn
  clear hn
  obtain ⟨er, her⟩ : ∃ v, In.chk ps = v := ⟨_, rfl⟩
  have HE := Lib.hid her
  clear her
  by_cases z : er = 0
  · have z' : (er != 0) = false := by rw [z]; rfl
    have HC : Hid (In.chk ps = 0) := Lib.hid (by rw [HE.out, z])
    clear z
    have hn3 : n ≤ 300 := by rw [← HN.out]; exact (In.chk_zero.1 HC.out).1
    have HV : Hid (∀ p ∈ ps, In.vld p = 0) := Lib.hid (In.chk_zero.1 HC.out).2
    go_enter Tryd.func19, Tryd.ntmps19
    go_wp2_with fail
    refine (rlist_to A c ps HN.out HE.out _ H.out hl).mono ?_
    rintro e w1 ⟨rfl, hb1⟩
    go_wp2_with fail
    go_loopw [6, 5] (fun i t wr => ∃ k : Nat, k ≤ n ∧ i = .int .i64 k ∧ ∃ s : Int, t = .int .i64 s ∧ In.wst (ps.take k) = s ∧ Ext w1 wr) (fun i _ _ => n - (intOf i).toNat)
    case atStart => exact ⟨0, by omega, rfl, 0, rfl, rfl, Ext.refl _⟩
    case round =>
      obtain ⟨k, hk, rfl, s, rfl, hls, he⟩ := hrel
      have HLS := Lib.hid hls
      clear hls
      by_cases hlt : k < n
      · obtain ⟨p, hp⟩ : ∃ p, ps[k]? = some p := ⟨ps[k]'(by rw [HN.out]; exact hlt), List.getElem?_eq_getElem _⟩
        obtain ⟨b, off, rfl, hb, c0, c1, c2, c3⟩ := (H.out.ext (hb1.trans he)).at_ hp
        have hv := In.vld_zero.1 (HV.out p (List.mem_of_getElem? hp))
        obtain ⟨p1, p2, p3, p4⟩ := p
        simp only at c0 c1 c2 c3 hv
        obtain ⟨⟨v1, v2⟩, ⟨v3, v4⟩, ⟨v5, v6⟩, ⟨v7, v8⟩⟩ := hv
        have HP := Lib.hid hp
        clear hp
        have ki0 : (0 : Int) ≤ (k : Int) := by omega
        have ki1 : (k : Int) < (n : Int) := by omega
        have HS : Hid (In.wst (ps.take (k + 1)) = max s p4) := Lib.hid (by rw [In.wst_step HP.out, HLS.out])
        go_wp2
        go_roundw
        case rel => exact ⟨k + 1, by omega, by go_num, _, rfl, by rw [HS.out] <;> first | rfl | exact (In.ite_max _ _).symm | omega, he⟩
        case measure => simp [intOf]; omega
      · have HF : Hid (In.worstV ps = s) := Lib.hid (by
          unfold In.worstV
          rw [if_neg (by rw [HC.out]; simp), ← HLS.out, List.take_of_length_le (by rw [HN.out]; omega)])
        go_wp2
        go_ret2
        exact ⟨ret_two HF.out.symm HC.out.symm, hb1.trans he⟩
  · have z' : (er != 0) = true := by rw [bne_iff_ne]; exact z
    have HR : Hid (In.chk ps ≠ 0) := Lib.hid (by rw [HE.out]; exact z)
    clear z
    go_enter Tryd.func19, Tryd.ntmps19
    go_wp2_with fail
    refine (rlist_to A c ps HN.out HE.out _ H.out hl).mono ?_
    rintro e w1 ⟨rfl, hb1⟩
    go_wp2
    go_ret2
    exact ⟨ret_two (by unfold In.worstV; rw [if_pos HR.out]) HE.out.symm, hb1⟩

set_option maxRecDepth 100000 in
set_option maxHeartbeats 3200000 in
theorem rhold_any (A : Option Addr) (c : Nat) (ps : List In.Inc) (w : World) (h : (⟨A, c, ps⟩ : NL).In w) :
    Calls Tryd.prog 21 #[.slice A ps.length c] w fun e w' => e = .returned (.tuple #[.bool (In.holdV ps), .int .i64 (In.chk ps)]) ∧ Ext w w' := by
  have hl : ps.length ≤ maxLen := Nat.le_trans h.2.1 h.2.2.1
  have H := Lib.hid h.1
  clear h
  obtain ⟨n, hn⟩ : ∃ n, ps.length = n := ⟨_, rfl⟩
  rw [hn] at hl ⊢
  have HN := Lib.hid hn
  clear hn
  obtain ⟨er, her⟩ : ∃ v, In.chk ps = v := ⟨_, rfl⟩
  have HE := Lib.hid her
  clear her
  by_cases z : er = 0
  · have z' : (er != 0) = false := by rw [z]; rfl
    have HC : Hid (In.chk ps = 0) := Lib.hid (by rw [HE.out, z])
    clear z
    have hn3 : n ≤ 300 := by rw [← HN.out]; exact (In.chk_zero.1 HC.out).1
    have HV : Hid (∀ p ∈ ps, In.vld p = 0) := Lib.hid (In.chk_zero.1 HC.out).2
    go_enter Tryd.func21, Tryd.ntmps21
    go_wp2_with fail
    refine (rlist_to A c ps HN.out HE.out _ H.out hl).mono ?_
    rintro e w1 ⟨rfl, hb1⟩
    go_wp2_with fail
    go_loopw [6, 5] (fun i t wr => ∃ k : Nat, k ≤ n ∧ i = .int .i64 k ∧ ∃ s : Int, t = .int .i64 s ∧ In.hpts (ps.take k) = s ∧ 0 ≤ s ∧ s ≤ 3 * (k : Int) ∧ Ext w1 wr) (fun i _ _ => n - (intOf i).toNat)
    case atStart => exact ⟨0, by omega, rfl, 0, rfl, rfl, by omega, by omega, Ext.refl _⟩
    case round =>
      obtain ⟨k, hk, rfl, s, rfl, hls, hs0, hs1, he⟩ := hrel
      have HLS := Lib.hid hls
      clear hls
      by_cases hlt : k < n
      · obtain ⟨p, hp⟩ : ∃ p, ps[k]? = some p := ⟨ps[k]'(by rw [HN.out]; exact hlt), List.getElem?_eq_getElem _⟩
        obtain ⟨b, off, rfl, hb, c0, c1, c2, c3⟩ := (H.out.ext (hb1.trans he)).at_ hp
        have hv := In.vld_zero.1 (HV.out p (List.mem_of_getElem? hp))
        obtain ⟨p1, p2, p3, p4⟩ := p
        simp only at c0 c1 c2 c3 hv
        obtain ⟨⟨v1, v2⟩, ⟨v3, v4⟩, ⟨v5, v6⟩, ⟨v7, v8⟩⟩ := hv
        have HP := Lib.hid hp
        clear hp
        have ki0 : (0 : Int) ≤ (k : Int) := by omega
        have ki1 : (k : Int) < (n : Int) := by omega
        have hc : (p4 = 3 ∨ (p4 ≠ 3 ∧ p1 = 5)) ∨ (p4 ≠ 3 ∧ p1 ≠ 5) := by omega
        rcases hc with (hg | ⟨hg, hi⟩) | ⟨hg, hi⟩
        · subst hg
          have HS : Hid (In.hpts (ps.take (k + 1)) = s + 2) := Lib.hid (by rw [In.hpts_step HP.out, HLS.out]; unfold In.hp; rw [if_pos (Or.inl rfl), if_neg (by simp)]; omega)
          go_wp2
          go_roundw
          case rel => exact ⟨k + 1, by omega, by go_num, _, rfl, by rw [HS.out] <;> first | rfl | omega, by omega, by omega, he⟩
          case measure => simp [intOf]; omega
        · subst hi
          have hg' : (p4 == 3) = false := by rw [beq_eq_false_iff_ne]; exact hg
          by_cases h2 : p4 = 2
          · subst h2
            have HS : Hid (In.hpts (ps.take (k + 1)) = s + 2 + 1) := Lib.hid (by rw [In.hpts_step HP.out, HLS.out]; unfold In.hp; rw [if_pos (Or.inr rfl), if_pos rfl]; omega)
            clear hg
            go_wp2
            go_roundw
            case rel => exact ⟨k + 1, by omega, by go_num, _, rfl, by rw [HS.out] <;> first | rfl | omega, by omega, by omega, he⟩
            case measure => simp [intOf]; omega
          · have h2' : (p4 == 2) = false := by rw [beq_eq_false_iff_ne]; exact h2
            have HS : Hid (In.hpts (ps.take (k + 1)) = s + 2) := Lib.hid (by rw [In.hpts_step HP.out, HLS.out]; unfold In.hp; rw [if_pos (Or.inr rfl), if_neg h2]; omega)
            clear hg h2
            go_wp2
            go_roundw
            case rel => exact ⟨k + 1, by omega, by go_num, _, rfl, by rw [HS.out] <;> first | rfl | omega, by omega, by omega, he⟩
            case measure => simp [intOf]; omega
        · have hg' : (p4 == 3) = false := by rw [beq_eq_false_iff_ne]; exact hg
          have hi' : (p1 == 5) = false := by rw [beq_eq_false_iff_ne]; exact hi
          by_cases h2 : p4 = 2
          · subst h2
            have HS : Hid (In.hpts (ps.take (k + 1)) = s + 1) := Lib.hid (by rw [In.hpts_step HP.out, HLS.out]; unfold In.hp; rw [if_neg (by simp only; omega), if_pos rfl]; omega)
            clear hg hi
            go_wp2
            go_roundw
            case rel => exact ⟨k + 1, by omega, by go_num, _, rfl, by rw [HS.out] <;> first | rfl | omega, by omega, by omega, he⟩
            case measure => simp [intOf]; omega
          · have h2' : (p4 == 2) = false := by rw [beq_eq_false_iff_ne]; exact h2
            have HS : Hid (In.hpts (ps.take (k + 1)) = s) := Lib.hid (by rw [In.hpts_step HP.out, HLS.out]; unfold In.hp; rw [if_neg (by simp only; omega), if_neg h2]; omega)
            clear hg hi h2
            go_wp2
            go_roundw
            case rel => exact ⟨k + 1, by omega, by go_num, _, rfl, by rw [HS.out] <;> first | rfl | omega, by omega, by omega, he⟩
            case measure => simp [intOf]; omega
      · have HF : Hid (In.holdV ps = decide (2 ≤ s)) := Lib.hid (by
          unfold In.holdV
          rw [if_neg (by rw [HC.out]; simp), ← HLS.out, List.take_of_length_le (by rw [HN.out]; omega)])
        go_wp2
        go_ret2
        exact ⟨ret_bint HF.out.symm HC.out.symm, hb1.trans he⟩
  · have z' : (er != 0) = true := by rw [bne_iff_ne]; exact z
    have HR : Hid (In.chk ps ≠ 0) := Lib.hid (by rw [HE.out]; exact z)
    clear z
    go_enter Tryd.func21, Tryd.ntmps21
    go_wp2_with fail
    refine (rlist_to A c ps HN.out HE.out _ H.out hl).mono ?_
    rintro e w1 ⟨rfl, hb1⟩
    go_wp2
    go_ret2
    exact ⟨ret_bint (by unfold In.holdV; rw [if_pos HR.out]) HE.out.symm, hb1⟩

set_option maxRecDepth 100000 in
set_option maxHeartbeats 3200000 in
theorem rcounts_any (A : Option Addr) (c : Nat) (ps : List In.Inc) (w : World) (h : (⟨A, c, ps⟩ : NL).In w) :
    Calls Tryd.prog 23 #[.slice A ps.length c] w fun e w' => RetCnt (In.countV ps) (In.chk ps) e w' ∧ Ext w w' := by
  have hl : ps.length ≤ maxLen := Nat.le_trans h.2.1 h.2.2.1
  have H := Lib.hid h.1
  clear h
  obtain ⟨n, hn⟩ : ∃ n, ps.length = n := ⟨_, rfl⟩
  rw [hn] at hl ⊢
  have HN := Lib.hid hn
  clear hn
  obtain ⟨er, her⟩ : ∃ v, In.chk ps = v := ⟨_, rfl⟩
  have HE := Lib.hid her
  clear her
  by_cases z : er = 0
  · have z' : (er != 0) = false := by rw [z]; rfl
    have HC : Hid (In.chk ps = 0) := Lib.hid (by rw [HE.out, z])
    clear z
    have hn3 : n ≤ 300 := by rw [← HN.out]; exact (In.chk_zero.1 HC.out).1
    have HV : Hid (∀ p ∈ ps, In.vld p = 0) := Lib.hid (In.chk_zero.1 HC.out).2
    go_enter Tryd.func23, Tryd.ntmps23
    go_wp2_with fail
    refine (rlist_to A c ps HN.out HE.out _ H.out hl).mono ?_
    rintro e w1 ⟨rfl, hb1⟩
    have hmk : ∀ w, (Instr.makeSlice 37 (.int .i64 6) (.int .i64 6)).run Tryd.prog w = .ok (.slice (some ⟨w.heap.size, 0, none⟩) 6 6) (w.alloc (.cells #[.int .i64 0, .int .i64 0, .int .i64 0, .int .i64 0, .int .i64 0, .int .i64 0] 3)) := fun w => by kernel_rfl
    go_wp2_with fail
    clear hmk
    go_loopw [6] (fun i wr => ∃ k : Nat, k ≤ n ∧ i = .int .i64 k ∧ CntAt wr w1.heap.size (ps.take k) ∧ Ext w1 wr) (fun i _ => n - (intOf i).toNat)
    case atStart => exact ⟨0, by omega, rfl, CntAt.new _ _, (Ext.refl _).alloc _⟩
    case round =>
      obtain ⟨k, hk, rfl, hcn, he⟩ := hrel
      have HCN := Lib.hid hcn
      have hgl := hcn.1
      clear hcn
      by_cases hlt : k < n
      · obtain ⟨p, hp⟩ : ∃ p, ps[k]? = some p := ⟨ps[k]'(by rw [HN.out]; exact hlt), List.getElem?_eq_getElem _⟩
        obtain ⟨b, off, rfl, hb, c0, c1, c2, c3⟩ := (H.out.ext (hb1.trans he)).at_ hp
        have hv := In.vld_zero.1 (HV.out p (List.mem_of_getElem? hp))
        obtain ⟨p1, p2, p3, p4⟩ := p
        simp only at c0 c1 c2 c3 hv
        obtain ⟨⟨v1, v2⟩, ⟨v3, v4⟩, ⟨v5, v6⟩, ⟨v7, v8⟩⟩ := hv
        have HP := Lib.hid hp
        clear hp
        have ki0 : (0 : Int) ≤ (k : Int) := by omega
        have ki1 : (k : Int) < (n : Int) := by omega
        obtain ⟨j, hj⟩ : ∃ j : Nat, p1 = (j : Int) + 1 := ⟨(p1 - 1).toNat, by omega⟩
        subst hj
        have hj6 : j < 6 := by omega
        have hj6' : (j : Int) < 6 := by omega
        have hj0 : (0 : Int) ≤ (j : Int) := by omega
        obtain ⟨g0, f0⟩ := HCN.out.2 j hj6
        have hbd := In.cnt_bd (ps.take k) j
        have hbl : ((ps.take k).length : Int) ≤ 300 := by rw [List.length_take]; omega
        obtain ⟨t, ht⟩ : ∃ t, In.cnt (ps.take k) j = t := ⟨_, rfl⟩
        rw [ht] at g0 hbd
        have HT := Lib.hid ht
        clear ht
        obtain ⟨q0, q1⟩ := hbd
        have hne : w1.heap.size ≠ wr.heap.size := by omega
        have hne' : wr.heap.size ≠ w1.heap.size := by omega
        go_wp2
        go_roundw
        case rel =>
          refine ⟨k + 1, by omega, by go_num, ?_, Ext.setCell he (Nat.le_refl _) _⟩
          rw [← HT.out]
          exact CntAt.step HCN.out HP.out hj6 rfl
        case measure => simp [intOf]; omega
      · have HF : Hid (In.countV ps = In.countL (ps.take k)) := Lib.hid (by
          unfold In.countV
          rw [if_neg (by rw [HC.out]; simp), List.take_of_length_le (by rw [HN.out]; omega)])
        go_wp2
        go_ret2
        refine ⟨?_, hb1.trans he⟩
        rw [HF.out, HC.out]
        exact ⟨_, _, rfl, HCN.out.sl⟩
  · have z' : (er != 0) = true := by rw [bne_iff_ne]; exact z
    have HR : Hid (In.chk ps ≠ 0) := Lib.hid (by rw [HE.out]; exact z)
    clear z
    go_enter Tryd.func23, Tryd.ntmps23
    go_wp2_with fail
    refine (rlist_to A c ps HN.out HE.out _ H.out hl).mono ?_
    rintro e w1 ⟨rfl, hb1⟩
    go_wp2
    go_ret2
    refine ⟨?_, hb1⟩
    rw [show In.countV ps = [] by unfold In.countV; rw [if_pos HR.out], HE.out]
    exact ⟨none, 0, rfl, SlI.nil _ _⟩
end Go.Proofs.YtcpapnnghclbmaaDoor
