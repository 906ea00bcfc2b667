/- The reference's Parse: its contract. Conditions: those of the theorem. -/
import Derived.Test.YtpdboefaedocfaaDoorTkD
import Derived.Deep.QuietTactic
import Derived.BigQuiet
namespace Go.Proofs.YtpdboefaedocfaaDoor
open Go.RowKit

namespace Tk
theorem bytes7 {s : ByteArray} (hn : s.size = 7) : pH s = [s[0]'(by omega)] ∧ pM s = [s[2]'(by omega), s[3]'(by omega)] ∧ pR s = [s[5]'(by omega), s[6]'(by omega)] := by
  obtain ⟨⟨l⟩⟩ := s
  have hl : l.length = 7 := by simpa [ByteArray.size] using hn
  match l, hl with
  | [b0, b1, b2, b3, b4, b5, b6], _ => exact ⟨rfl, rfl, rfl⟩
theorem take7 {s : ByteArray} (hn : s.size = 7) : s.data.toList.take 1 = pH s := by
  obtain ⟨⟨l⟩⟩ := s
  have hl : l.length = 7 := by simpa [ByteArray.size] using hn
  match l, hl with
  | [b0, b1, b2, b3, b4, b5, b6], _ => rfl
theorem good7 {s : ByteArray} (hn : s.size = 7) : (okD (pH s) = true ∧ okD (pM s) = true ∧ okD (pR s) = true) ↔ ∀ q (hq : q < s.size), q ≠ 4 → q ≠ 1 → isD s[q] = true := by
  obtain ⟨e1, e2, e3⟩ := bytes7 hn
  rw [e1, e2, e3]
  simp only [okD, List.all_cons, List.all_nil, Bool.and_true, Bool.and_eq_true]
  constructor
  · rintro ⟨h1, ⟨h2, h3⟩, h4, h5⟩ q hq n1 n2
    have hc : q = 0 ∨ q = 2 ∨ q = 3 ∨ q = 5 ∨ q = 6 := by omega
    rcases hc with rfl | rfl | rfl | rfl | rfl
    · exact h1
    · exact h2
    · exact h3
    · exact h4
    · exact h5
  · intro h
    exact ⟨h 0 (by omega) (by omega) (by omega), ⟨h 2 (by omega) (by omega) (by omega), h 3 (by omega) (by omega) (by omega)⟩, h 5 (by omega) (by omega) (by omega), h 6 (by omega) (by omega) (by omega)⟩
theorem bytes8 {s : ByteArray} (hn : s.size = 8) : pH s = [s[0]'(by omega), s[1]'(by omega)] ∧ pM s = [s[3]'(by omega), s[4]'(by omega)] ∧ pR s = [s[6]'(by omega), s[7]'(by omega)] := by
  obtain ⟨⟨l⟩⟩ := s
  have hl : l.length = 8 := by simpa [ByteArray.size] using hn
  match l, hl with
  | [b0, b1, b2, b3, b4, b5, b6, b7], _ => exact ⟨rfl, rfl, rfl⟩
theorem take8 {s : ByteArray} (hn : s.size = 8) : s.data.toList.take 2 = pH s := by
  obtain ⟨⟨l⟩⟩ := s
  have hl : l.length = 8 := by simpa [ByteArray.size] using hn
  match l, hl with
  | [b0, b1, b2, b3, b4, b5, b6, b7], _ => rfl
theorem good8 {s : ByteArray} (hn : s.size = 8) : (okD (pH s) = true ∧ okD (pM s) = true ∧ okD (pR s) = true) ↔ ∀ q (hq : q < s.size), q ≠ 5 → q ≠ 2 → isD s[q] = true := by
  obtain ⟨e1, e2, e3⟩ := bytes8 hn
  rw [e1, e2, e3]
  simp only [okD, List.all_cons, List.all_nil, Bool.and_true, Bool.and_eq_true]
  constructor
  · rintro ⟨h1, ⟨h2, h3⟩, h4, h5⟩ q hq n1 n2
    have hc : q = 0 ∨ q = 1 ∨ q = 3 ∨ q = 4 ∨ q = 6 ∨ q = 7 := by omega
    rcases hc with rfl | rfl | rfl | rfl | rfl | rfl
    · exact h1.1
    · exact h1.2
    · exact h2
    · exact h3
    · exact h4
    · exact h5
  · intro h
    exact ⟨⟨h 0 (by omega) (by omega) (by omega), h 1 (by omega) (by omega) (by omega)⟩, ⟨h 3 (by omega) (by omega) (by omega), h 4 (by omega) (by omega) (by omega)⟩, h 6 (by omega) (by omega) (by omega), h 7 (by omega) (by omega) (by omega)⟩
end Tk

theorem refPrint_to (x : Int) (n : Nat) (hx : x = n) (hn : n ≤ 359999) (w : World) :
    Calls Tryd.prog 9 #[.int .i64 x] w fun e w' => e = .returned (.tuple #[.string (Tk.str (Tk.prt n)), .int .i64 0]) ∧ Ext w w' := by
  subst hx
  exact refPrint_ok n hn w
set_option maxRecDepth 100000 in
set_option maxHeartbeats 3200000 in
theorem refParse_any (s : ByteArray) (hs : s.size ≤ maxLen) (w : World) :
    Calls Tryd.prog 10 #[.string s] w fun e w' => e = .returned (.tuple #[.int .i64 (Tk.parseN s), .int .i64 (Tk.parseE s)]) ∧ Ext w w' := by
  unfold maxLen at hs
  rcases Nat.lt_or_ge s.size 7 with h7 | h7
  · have h7' : (s.size : Int) < 7 := by omega
    have HN : Hid (¬ Tk.Good s) := Lib.hid (fun h => by have := h.1; omega)
    go_enter Tryd.func10, Tryd.ntmps10
    go_wp2
    refine bodyPost_ret (v := .tuple #[.int .i64 0, .int .i64 2]) (by simp [results, Tryd.results10, go_sem]) rfl ⟨?_, Ext.refl _⟩
    unfold Tk.parseN Tk.parseE
    rw [if_neg HN.out, if_neg HN.out]
  rcases Nat.lt_or_ge 8 s.size with h8 | h8
  · have h7' : ¬ (s.size : Int) < 7 := by omega
    have h8' : (8 : Int) < (s.size : Int) := by omega
    have HN : Hid (¬ Tk.Good s) := Lib.hid (fun h => by have := h.1; omega)
    go_enter Tryd.func10, Tryd.ntmps10
    go_wp2
    refine bodyPost_ret (v := .tuple #[.int .i64 0, .int .i64 2]) (by simp [results, Tryd.results10, go_sem]) rfl ⟨?_, Ext.refl _⟩
    unfold Tk.parseN Tk.parseE
    rw [if_neg HN.out, if_neg HN.out]
  have h78 : s.size = 7 ∨ s.size = 8 := by omega
  have H78 := Lib.hid h78
  clear h7 h8
  rcases h78 with hn | hn
  · have HN1 := Lib.hid hn
    go_enter Tryd.func10, Tryd.ntmps10
    go_wp2
    go_loop [6] (fun i => ∃ j : Nat, j ≤ 7 ∧ i = .int .i64 j ∧ ∀ q (hq : q < s.size), q < j → q ≠ 4 → q ≠ 1 → Tk.isD s[q] = true) (fun i => 7 - (intOf i).toNat)
    case atStart => exact ⟨0, by omega, rfl, fun q hq h => absurd h (by omega)⟩
    case round =>
      obtain ⟨j, hj, rfl, hall⟩ := hrel
      have HALL := Lib.hid hall
      clear hall
      by_cases hlt : j < 7
      · have hlt' : (j : Int) < 7 := by omega
        have hjs : j < s.size := by omega
        by_cases hsk : j = 4 ∨ j = 1
        · have hc : ((j : Int) == 4) = true ∨ (((j : Int) == 4) = false ∧ ((j : Int) == 1) = true) := by
            rcases hsk with rfl | rfl
            · left; rfl
            · right; exact ⟨rfl, rfl⟩
          have HSK := Lib.hid hsk
          clear hsk
          rcases hc with c1 | ⟨c1, c2⟩
          all_goals
            go_wp2
            go_round
            case rel =>
              refine ⟨j + 1, by omega, by go_num, fun q hq h n1 n2 => HALL.out q hq ?_ n1 n2⟩
              have := HSK.out
              omega
            case measure => simp [intOf]; omega
        · have c1 : ((j : Int) == 4) = false := by rw [beq_eq_false_iff_ne]; omega
          have c2 : ((j : Int) == 1) = false := by rw [beq_eq_false_iff_ne]; omega
          have HSK := Lib.hid hsk
          clear hsk
          by_cases hd : 48 ≤ (s[j].toNat : Int) ∧ (s[j].toNat : Int) ≤ 57
          · obtain ⟨d1, d2⟩ := hd
            go_wp2
            go_round
            case rel =>
              refine ⟨j + 1, by omega, by go_num, fun q hq h n1 n2 => ?_⟩
              rcases Nat.lt_or_ge q j with g | g
              · exact HALL.out q hq g n1 n2
              · obtain rfl : q = j := by omega
                exact (Tk.isD_iff _).2 ⟨d1, d2⟩
            case measure => simp [intOf]; omega
          · have HN : Hid (¬ Tk.Good s) := Lib.hid (fun h => by
              have hg := (Tk.good7 HN1.out).1 ⟨h.2.1, h.2.2.1, h.2.2.2.1⟩ j hjs (by have := HSK.out; omega) (by have := HSK.out; omega)
              exact hd ((Tk.isD_iff _).1 hg))
            have hd' : (s[j].toNat : Int) < 48 ∨ (48 ≤ (s[j].toNat : Int) ∧ 57 < (s[j].toNat : Int)) := by omega
            clear hd
            rcases hd' with d1 | ⟨d1, d2⟩
            all_goals
              go_wp2
              refine bodyPost_ret (v := .tuple #[.int .i64 0, .int .i64 2]) (by simp [results, Tryd.results10, go_sem]) rfl ⟨?_, Ext.refl _⟩
              unfold Tk.parseN Tk.parseE
              rw [if_neg HN.out, if_neg HN.out]
      · obtain rfl : j = 7 := by omega
        clear hlt
        replace HALL : Hid (∀ q (hq : q < s.size), q ≠ 4 → q ≠ 1 → Tk.isD s[q] = true) := Lib.hid (fun q hq n1 n2 => HALL.out q hq (by omega) n1 n2)
        have HOK := Lib.hid ((Tk.good7 HN1.out).2 HALL.out)
        go_wp2
        go_loop [4, 7] (fun v i => ∃ j : Nat, j ≤ 1 ∧ i = .int .i64 j ∧ v = .int .i64 (Tk.val (s.data.toList.take j)) ∧ Tk.okD (s.data.toList.take j) = true) (fun _ i => 1 - (intOf i).toNat)
        case atStart => exact ⟨0, by omega, rfl, rfl, rfl⟩
        case round =>
          obtain ⟨j, hj, rfl, rfl, hok⟩ := hrel
          have hl : (s.data.toList.take j).length ≤ j := List.length_take_le _ _
          have hb := Tk.val_bd _ hok (by omega)
          obtain ⟨v, hv⟩ : ∃ v, Tk.val (s.data.toList.take j) = v := ⟨_, rfl⟩
          rw [hv] at hb ⊢
          have HV := Lib.hid hv
          have HOKJ := Lib.hid hok
          clear hv hok
          by_cases hlt : j < 1
          · have hb9 : v ≤ 9 := hb.2.2 (by omega)
            obtain ⟨hb0, hb1, -⟩ := hb
            have hlt' : (j : Int) < 1 := by omega
            have hjs : j < s.size := by omega
            have hd := (Tk.isD_iff _).1 (HALL.out j hjs (by omega) (by omega))
            obtain ⟨d1, d2⟩ := hd
            have HT := Lib.hid (Tk.take_snoc s j hjs)
            clear hl
            go_wp2
            go_round
            case rel =>
              refine ⟨j + 1, by omega, by go_num, ?_, ?_⟩
              · rw [HT.out, Tk.val_snoc, HV.out]
              · rw [HT.out, Tk.ok_snoc, HOKJ.out]
                simp [Tk.isD_iff]; omega
            case measure => simp [intOf]; omega
          · obtain rfl : j = 1 := by omega
            clear hlt hl
            obtain ⟨hb0, hb1, -⟩ := hb
            have hd2 := (Tk.isD_iff _).1 (HALL.out 2 (by omega) (by omega) (by omega))
            obtain ⟨x2, hx2⟩ : ∃ x : Int, ((s[2]'(by omega)).toNat : Int) = x := ⟨_, rfl⟩
            rw [hx2] at hd2
            obtain ⟨lo2, hi2⟩ := hd2
            have hd3 := (Tk.isD_iff _).1 (HALL.out 3 (by omega) (by omega) (by omega))
            obtain ⟨x3, hx3⟩ : ∃ x : Int, ((s[3]'(by omega)).toNat : Int) = x := ⟨_, rfl⟩
            rw [hx3] at hd3
            obtain ⟨lo3, hi3⟩ := hd3
            have hd5 := (Tk.isD_iff _).1 (HALL.out 5 (by omega) (by omega) (by omega))
            obtain ⟨x5, hx5⟩ : ∃ x : Int, ((s[5]'(by omega)).toNat : Int) = x := ⟨_, rfl⟩
            rw [hx5] at hd5
            obtain ⟨lo5, hi5⟩ := hd5
            have hd6 := (Tk.isD_iff _).1 (HALL.out 6 (by omega) (by omega) (by omega))
            obtain ⟨x6, hx6⟩ : ∃ x : Int, ((s[6]'(by omega)).toNat : Int) = x := ⟨_, rfl⟩
            rw [hx6] at hd6
            obtain ⟨lo6, hi6⟩ := hd6
            have HSEC : Hid (Tk.secs s = v * 3600 + ((x2 - 48) * 10 + (x3 - 48)) * 60 + (x5 - 48) * 10 + (x6 - 48)) := Lib.hid (by
              have h1 := HOK.out
              have h2 := HV.out
              rw [Tk.take7 HN1.out] at h2
              unfold Tk.secs Tk.dN
              rw [if_pos h1.1, if_pos h1.2.1, if_pos h1.2.2, h2]
              obtain ⟨e1, e2, e3⟩ := Tk.bytes7 HN1.out
              rw [e2, e3]
              simp only [Tk.val, List.foldl_cons, List.foldl_nil, hx2, hx3, hx5, hx6]
              omega)
            by_cases hr : v * 3600 + ((x2 - 48) * 10 + (x3 - 48)) * 60 + (x5 - 48) * 10 + (x6 - 48) ≤ 359999
            · obtain ⟨m, hm⟩ : ∃ m : Nat, v * 3600 + ((x2 - 48) * 10 + (x3 - 48)) * 60 + (x5 - 48) * 10 + (x6 - 48) = m := ⟨(v * 3600 + ((x2 - 48) * 10 + (x3 - 48)) * 60 + (x5 - 48) * 10 + (x6 - 48)).toNat, by omega⟩
              have hm2 : m ≤ 359999 := by omega
              have HM := Lib.hid hm
              clear hm
              go_wp2
              go_quiet (fail)
              go_wp2_with fail
              refine (refPrint_to _ m (by have := HM.out; omega) hm2 _).mono ?_
              rintro e w1 ⟨rfl, hw1⟩
              replace hw1 := hw1.undrewN
              by_cases heq : Tk.str (Tk.prt m) = s
              · have HG : Hid (Tk.Good s) := Lib.hid ⟨H78.out, HOK.out.1, HOK.out.2.1, HOK.out.2.2, by rw [HSEC.out]; exact hr, by rw [HSEC.out, HM.out]; exact heq⟩
                have hq := Tk.eqT heq
                generalize Tk.str (Tk.prt m) = a at *
                clear heq
                go_wp2
                refine bodyPost_ret (v := .tuple #[.int .i64 (v * 3600 + ((x2 - 48) * 10 + (x3 - 48)) * 60 + (x5 - 48) * 10 + (x6 - 48)), .int .i64 0]) (by simp [results, Tryd.results10, go_sem]) rfl ⟨?_, hw1⟩
                unfold Tk.parseN Tk.parseE
                rw [if_pos HG.out, if_pos HG.out, HSEC.out]
              · have HN : Hid (¬ Tk.Good s) := Lib.hid (fun h => heq (by have := h.2.2.2.2.2; rw [HSEC.out, HM.out] at this; exact this))
                have hq := Tk.eqF heq
                generalize Tk.str (Tk.prt m) = a at *
                clear heq
                go_wp2
                refine bodyPost_ret (v := .tuple #[.int .i64 0, .int .i64 2]) (by simp [results, Tryd.results10, go_sem]) rfl ⟨?_, hw1⟩
                unfold Tk.parseN Tk.parseE
                rw [if_neg HN.out, if_neg HN.out]
            · have HN : Hid (¬ Tk.Good s) := Lib.hid (fun h => hr (by have := h.2.2.2.2.1; rw [HSEC.out] at this; exact this))
              go_wp2
              go_quiet (fail)
              go_wp2_with fail
              refine (refPrint_no _ (by omega) _).mono ?_
              rintro e w1 ⟨rfl, hw1⟩
              subst hw1
              go_wp2
              refine bodyPost_ret (v := .tuple #[.int .i64 0, .int .i64 2]) (by simp [results, Tryd.results10, go_sem]) rfl ⟨?_, (Ext.refl _).drewN _⟩
              unfold Tk.parseN Tk.parseE
              rw [if_neg HN.out, if_neg HN.out]
  · have HN1 := Lib.hid hn
    go_enter Tryd.func10, Tryd.ntmps10
    go_wp2
    go_loop [6] (fun i => ∃ j : Nat, j ≤ 8 ∧ i = .int .i64 j ∧ ∀ q (hq : q < s.size), q < j → q ≠ 5 → q ≠ 2 → Tk.isD s[q] = true) (fun i => 8 - (intOf i).toNat)
    case atStart => exact ⟨0, by omega, rfl, fun q hq h => absurd h (by omega)⟩
    case round =>
      obtain ⟨j, hj, rfl, hall⟩ := hrel
      have HALL := Lib.hid hall
      clear hall
      by_cases hlt : j < 8
      · have hlt' : (j : Int) < 8 := by omega
        have hjs : j < s.size := by omega
        by_cases hsk : j = 5 ∨ j = 2
        · have hc : ((j : Int) == 5) = true ∨ (((j : Int) == 5) = false ∧ ((j : Int) == 2) = true) := by
            rcases hsk with rfl | rfl
            · left; rfl
            · right; exact ⟨rfl, rfl⟩
          have HSK := Lib.hid hsk
          clear hsk
          rcases hc with c1 | ⟨c1, c2⟩
          all_goals
            go_wp2
            go_round
            case rel =>
              refine ⟨j + 1, by omega, by go_num, fun q hq h n1 n2 => HALL.out q hq ?_ n1 n2⟩
              have := HSK.out
              omega
            case measure => simp [intOf]; omega
        · have c1 : ((j : Int) == 5) = false := by rw [beq_eq_false_iff_ne]; omega
          have c2 : ((j : Int) == 2) = false := by rw [beq_eq_false_iff_ne]; omega
          have HSK := Lib.hid hsk
          clear hsk
          by_cases hd : 48 ≤ (s[j].toNat : Int) ∧ (s[j].toNat : Int) ≤ 57
          · obtain ⟨d1, d2⟩ := hd
            go_wp2
            go_round
            case rel =>
              refine ⟨j + 1, by omega, by go_num, fun q hq h n1 n2 => ?_⟩
              rcases Nat.lt_or_ge q j with g | g
              · exact HALL.out q hq g n1 n2
              · obtain rfl : q = j := by omega
                exact (Tk.isD_iff _).2 ⟨d1, d2⟩
            case measure => simp [intOf]; omega
          · have HN : Hid (¬ Tk.Good s) := Lib.hid (fun h => by
              have hg := (Tk.good8 HN1.out).1 ⟨h.2.1, h.2.2.1, h.2.2.2.1⟩ j hjs (by have := HSK.out; omega) (by have := HSK.out; omega)
              exact hd ((Tk.isD_iff _).1 hg))
            have hd' : (s[j].toNat : Int) < 48 ∨ (48 ≤ (s[j].toNat : Int) ∧ 57 < (s[j].toNat : Int)) := by omega
            clear hd
            rcases hd' with d1 | ⟨d1, d2⟩
            all_goals
              go_wp2
              refine bodyPost_ret (v := .tuple #[.int .i64 0, .int .i64 2]) (by simp [results, Tryd.results10, go_sem]) rfl ⟨?_, Ext.refl _⟩
              unfold Tk.parseN Tk.parseE
              rw [if_neg HN.out, if_neg HN.out]
      · obtain rfl : j = 8 := by omega
        clear hlt
        replace HALL : Hid (∀ q (hq : q < s.size), q ≠ 5 → q ≠ 2 → Tk.isD s[q] = true) := Lib.hid (fun q hq n1 n2 => HALL.out q hq (by omega) n1 n2)
        have HOK := Lib.hid ((Tk.good8 HN1.out).2 HALL.out)
        go_wp2
        go_loop [4, 7] (fun v i => ∃ j : Nat, j ≤ 2 ∧ i = .int .i64 j ∧ v = .int .i64 (Tk.val (s.data.toList.take j)) ∧ Tk.okD (s.data.toList.take j) = true) (fun _ i => 2 - (intOf i).toNat)
        case atStart => exact ⟨0, by omega, rfl, rfl, rfl⟩
        case round =>
          obtain ⟨j, hj, rfl, rfl, hok⟩ := hrel
          have hl : (s.data.toList.take j).length ≤ j := List.length_take_le _ _
          have hb := Tk.val_bd _ hok (by omega)
          obtain ⟨v, hv⟩ : ∃ v, Tk.val (s.data.toList.take j) = v := ⟨_, rfl⟩
          rw [hv] at hb ⊢
          have HV := Lib.hid hv
          have HOKJ := Lib.hid hok
          clear hv hok
          by_cases hlt : j < 2
          · have hb9 : v ≤ 9 := hb.2.2 (by omega)
            obtain ⟨hb0, hb1, -⟩ := hb
            have hlt' : (j : Int) < 2 := by omega
            have hjs : j < s.size := by omega
            have hd := (Tk.isD_iff _).1 (HALL.out j hjs (by omega) (by omega))
            obtain ⟨d1, d2⟩ := hd
            have HT := Lib.hid (Tk.take_snoc s j hjs)
            clear hl
            go_wp2
            go_round
            case rel =>
              refine ⟨j + 1, by omega, by go_num, ?_, ?_⟩
              · rw [HT.out, Tk.val_snoc, HV.out]
              · rw [HT.out, Tk.ok_snoc, HOKJ.out]
                simp [Tk.isD_iff]; omega
            case measure => simp [intOf]; omega
          · obtain rfl : j = 2 := by omega
            clear hlt hl
            obtain ⟨hb0, hb1, -⟩ := hb
            have hd3 := (Tk.isD_iff _).1 (HALL.out 3 (by omega) (by omega) (by omega))
            obtain ⟨x3, hx3⟩ : ∃ x : Int, ((s[3]'(by omega)).toNat : Int) = x := ⟨_, rfl⟩
            rw [hx3] at hd3
            obtain ⟨lo3, hi3⟩ := hd3
            have hd4 := (Tk.isD_iff _).1 (HALL.out 4 (by omega) (by omega) (by omega))
            obtain ⟨x4, hx4⟩ : ∃ x : Int, ((s[4]'(by omega)).toNat : Int) = x := ⟨_, rfl⟩
            rw [hx4] at hd4
            obtain ⟨lo4, hi4⟩ := hd4
            have hd6 := (Tk.isD_iff _).1 (HALL.out 6 (by omega) (by omega) (by omega))
            obtain ⟨x6, hx6⟩ : ∃ x : Int, ((s[6]'(by omega)).toNat : Int) = x := ⟨_, rfl⟩
            rw [hx6] at hd6
            obtain ⟨lo6, hi6⟩ := hd6
            have hd7 := (Tk.isD_iff _).1 (HALL.out 7 (by omega) (by omega) (by omega))
            obtain ⟨x7, hx7⟩ : ∃ x : Int, ((s[7]'(by omega)).toNat : Int) = x := ⟨_, rfl⟩
            rw [hx7] at hd7
            obtain ⟨lo7, hi7⟩ := hd7
            have HSEC : Hid (Tk.secs s = v * 3600 + ((x3 - 48) * 10 + (x4 - 48)) * 60 + (x6 - 48) * 10 + (x7 - 48)) := Lib.hid (by
              have h1 := HOK.out
              have h2 := HV.out
              rw [Tk.take8 HN1.out] at h2
              unfold Tk.secs Tk.dN
              rw [if_pos h1.1, if_pos h1.2.1, if_pos h1.2.2, h2]
              obtain ⟨e1, e2, e3⟩ := Tk.bytes8 HN1.out
              rw [e2, e3]
              simp only [Tk.val, List.foldl_cons, List.foldl_nil, hx3, hx4, hx6, hx7]
              omega)
            by_cases hr : v * 3600 + ((x3 - 48) * 10 + (x4 - 48)) * 60 + (x6 - 48) * 10 + (x7 - 48) ≤ 359999
            · obtain ⟨m, hm⟩ : ∃ m : Nat, v * 3600 + ((x3 - 48) * 10 + (x4 - 48)) * 60 + (x6 - 48) * 10 + (x7 - 48) = m := ⟨(v * 3600 + ((x3 - 48) * 10 + (x4 - 48)) * 60 + (x6 - 48) * 10 + (x7 - 48)).toNat, by omega⟩
              have hm2 : m ≤ 359999 := by omega
              have HM := Lib.hid hm
              clear hm
              go_wp2
              go_quiet (fail)
              go_wp2_with fail
              refine (refPrint_to _ m (by have := HM.out; omega) hm2 _).mono ?_
              rintro e w1 ⟨rfl, hw1⟩
              replace hw1 := hw1.undrewN
              by_cases heq : Tk.str (Tk.prt m) = s
              · have HG : Hid (Tk.Good s) := Lib.hid ⟨H78.out, HOK.out.1, HOK.out.2.1, HOK.out.2.2, by rw [HSEC.out]; exact hr, by rw [HSEC.out, HM.out]; exact heq⟩
                have hq := Tk.eqT heq
                generalize Tk.str (Tk.prt m) = a at *
                clear heq
                go_wp2
                refine bodyPost_ret (v := .tuple #[.int .i64 (v * 3600 + ((x3 - 48) * 10 + (x4 - 48)) * 60 + (x6 - 48) * 10 + (x7 - 48)), .int .i64 0]) (by simp [results, Tryd.results10, go_sem]) rfl ⟨?_, hw1⟩
                unfold Tk.parseN Tk.parseE
                rw [if_pos HG.out, if_pos HG.out, HSEC.out]
              · have HN : Hid (¬ Tk.Good s) := Lib.hid (fun h => heq (by have := h.2.2.2.2.2; rw [HSEC.out, HM.out] at this; exact this))
                have hq := Tk.eqF heq
                generalize Tk.str (Tk.prt m) = a at *
                clear heq
                go_wp2
                refine bodyPost_ret (v := .tuple #[.int .i64 0, .int .i64 2]) (by simp [results, Tryd.results10, go_sem]) rfl ⟨?_, hw1⟩
                unfold Tk.parseN Tk.parseE
                rw [if_neg HN.out, if_neg HN.out]
            · have HN : Hid (¬ Tk.Good s) := Lib.hid (fun h => hr (by have := h.2.2.2.2.1; rw [HSEC.out] at this; exact this))
              go_wp2
              go_quiet (fail)
              go_wp2_with fail
              refine (refPrint_no _ (by omega) _).mono ?_
              rintro e w1 ⟨rfl, hw1⟩
              subst hw1
              go_wp2
              refine bodyPost_ret (v := .tuple #[.int .i64 0, .int .i64 2]) (by simp [results, Tryd.results10, go_sem]) rfl ⟨?_, (Ext.refl _).drewN _⟩
              unfold Tk.parseN Tk.parseE
              rw [if_neg HN.out, if_neg HN.out]
end Go.Proofs.YtpdboefaedocfaaDoor
