/- timing's Parse: its contract. Conditions: those of each theorem. -/
import Derived.Test.YtpdboefaedocfaaDoorTkB
namespace Go.Proofs.YtpdboefaedocfaaDoor
open Go.RowKit

theorem Tk.eqT {a b : ByteArray} (h : a = b) : (a.toList == b.toList) = true := by subst h; simp
theorem Tk.eqF {a b : ByteArray} (h : a ≠ b) : (a.toList == b.toList) = false := by
  rw [beq_eq_false_iff_ne]
  intro e
  rw [ByteArray.toList_eq, ByteArray.toList_eq] at e
  exact h (by rw [← Tk.str_eta a, ← Tk.str_eta b, e])
namespace Tk
def pH (s : ByteArray) : List UInt8 := (s.extract 0 (s.size - 6)).data.toList
def pM (s : ByteArray) : List UInt8 := (s.extract (s.size - 5) (s.size - 3)).data.toList
def pR (s : ByteArray) : List UInt8 := (s.extract (s.size - 2) s.size).data.toList
def secs (s : ByteArray) : Int := 3600 * dN (pH s) + 60 * dN (pM s) + dN (pR s)
/-- A string that is a printed time. -/
def Good (s : ByteArray) : Prop := (s.size = 7 ∨ s.size = 8) ∧ okD (pH s) = true ∧ okD (pM s) = true ∧ okD (pR s) = true ∧ secs s ≤ 359999 ∧ str (prt (secs s).toNat) = s
instance (s : ByteArray) : Decidable (Good s) := by unfold Good; exact inferInstance
def parseN (s : ByteArray) : Int := if Good s then secs s else 0
def parseE (s : ByteArray) : Int := if Good s then 0 else 2
end Tk

theorem digits_to (s : ByteArray) (hs : s.size ≤ 2) {n : Int} {b : Bool} (hn : Tk.dN s.data.toList = n) (hb : Tk.okD s.data.toList = b) (w : World) :
    Calls Tryd.prog 13 #[.string s] w fun e w' => e = .returned (.tuple #[.int .i64 n, .bool b]) ∧ w' = w := by
  subst hn hb
  exact digits_any s hs w
theorem Tk.dN_bd {l : List UInt8} (hl : l.length ≤ 2) : 0 ≤ Tk.dN l ∧ Tk.dN l ≤ 99 := by
  unfold Tk.dN
  split
  · have := Tk.val_bd l ‹_› hl; omega
  · omega

theorem print_to (x : Int) (n : Nat) (hx : x = n) (hn : n ≤ 359999) (w : World) :
    Calls Tryd.prog 5 #[.int .i64 x] w fun e w' => e = .returned (.tuple #[.string (Tk.str (Tk.prt n)), .int .i64 0]) ∧ w' = w := by
  subst hx
  exact print_ok n hn w
set_option maxRecDepth 100000 in
set_option maxHeartbeats 1600000 in
theorem parse_any (s : ByteArray) (hs : s.size ≤ maxLen) (w : World) :
    Calls Tryd.prog 6 #[.string s] w fun e w' => e = .returned (.tuple #[.int .i64 (Tk.parseN s), .int .i64 (Tk.parseE s)]) ∧ w' = w := by
  unfold maxLen at hs
  by_cases h78 : s.size = 7 ∨ s.size = 8
  · have l1 : (s.extract 0 (s.size - 6)).size ≤ 2 := by simp; omega
    have l2 : (s.extract (s.size - 5) (s.size - 3)).size ≤ 2 := by simp; omega
    have l3 : (s.extract (s.size - 2) s.size).size ≤ 2 := by simp; omega
    obtain ⟨x, hx⟩ : ∃ x, Tk.dN (Tk.pH s) = x := ⟨_, rfl⟩
    obtain ⟨y, hy⟩ : ∃ y, Tk.dN (Tk.pM s) = y := ⟨_, rfl⟩
    obtain ⟨z, hz⟩ : ∃ z, Tk.dN (Tk.pR s) = z := ⟨_, rfl⟩
    obtain ⟨b1, hb1⟩ : ∃ b, Tk.okD (Tk.pH s) = b := ⟨_, rfl⟩
    obtain ⟨b2, hb2⟩ : ∃ b, Tk.okD (Tk.pM s) = b := ⟨_, rfl⟩
    obtain ⟨b3, hb3⟩ : ∃ b, Tk.okD (Tk.pR s) = b := ⟨_, rfl⟩
    have x0 : 0 ≤ x ∧ x ≤ 99 := hx ▸ Tk.dN_bd l1
    have y0 : 0 ≤ y ∧ y ≤ 99 := hy ▸ Tk.dN_bd l2
    have z0 : 0 ≤ z ∧ z ≤ 99 := hz ▸ Tk.dN_bd l3
    have HX := Lib.hid hx
    have HY := Lib.hid hy
    have HZ := Lib.hid hz
    have HB1 := Lib.hid hb1
    have HB2 := Lib.hid hb2
    have HB3 := Lib.hid hb3
    have H78 := Lib.hid h78
    clear hx hy hz hb1 hb2 hb3
    rcases h78 with hn | hn
    · rw [hn] at l1 l2 l3
      have E1 : Hid (Tk.pH s = (s.extract 0 1).data.toList) := Lib.hid (by unfold Tk.pH; rw [hn])
      have E2 : Hid (Tk.pM s = (s.extract 2 4).data.toList) := Lib.hid (by unfold Tk.pM; rw [hn])
      have E3 : Hid (Tk.pR s = (s.extract 5 7).data.toList) := Lib.hid (by unfold Tk.pR; rw [hn])
      go_enter Tryd.func6, Tryd.ntmps6
      go_wp2_with fail
      refine (digits_to (s.extract 0 1) l1 (n := x) (b := b1) (by rw [← E1.out]; exact HX.out) (by rw [← E1.out]; exact HB1.out) _).mono ?_
      rintro e w1 ⟨rfl, rfl⟩
      go_wp2_with fail
      refine (digits_to (s.extract 2 4) l2 (n := y) (b := b2) (by rw [← E2.out]; exact HY.out) (by rw [← E2.out]; exact HB2.out) _).mono ?_
      rintro e w1 ⟨rfl, rfl⟩
      go_wp2_with fail
      refine (digits_to (s.extract 5 7) l3 (n := z) (b := b3) (by rw [← E3.out]; exact HZ.out) (by rw [← E3.out]; exact HB3.out) _).mono ?_
      rintro e w1 ⟨rfl, rfl⟩
      by_cases hall : b1 = true ∧ b2 = true ∧ b3 = true
      · obtain ⟨rfl, rfl, rfl⟩ := hall
        have HSEC : Hid (Tk.secs s = 3600 * x + 60 * y + z) := Lib.hid (by unfold Tk.secs; rw [HX.out, HY.out, HZ.out])
        by_cases hr : 3600 * x + 60 * y + z ≤ 359999
        · obtain ⟨m, hm⟩ : ∃ m : Nat, 3600 * x + 60 * y + z = m := ⟨(3600 * x + 60 * y + z).toNat, by omega⟩
          have hm2 : m ≤ 359999 := by omega
          have HM := Lib.hid hm
          clear hm
          go_wp2_with fail
          refine (print_to _ m HM.out hm2 _).mono ?_
          rintro e w1 ⟨rfl, rfl⟩
          by_cases heq : Tk.str (Tk.prt m) = s
          · have HG : Hid (Tk.Good s) := Lib.hid ⟨H78.out, HB1.out, HB2.out, HB3.out, by rw [HSEC.out]; exact hr, by rw [HSEC.out, HM.out]; exact heq⟩
            have hq := Tk.eqT heq
            generalize Tk.str (Tk.prt m) = a at *
            clear heq
            go_wp2
            refine bodyPost_ret (v := .tuple #[.int .i64 (3600 * x + 60 * y + z), .int .i64 0]) (by simp [results, Tryd.results6, go_sem]) rfl ⟨?_, rfl⟩
            unfold Tk.parseN Tk.parseE
            rw [if_pos HG.out, if_pos HG.out, HSEC.out]
          · have HN : Hid (¬ Tk.Good s) := Lib.hid (fun h => heq (by have := h.2.2.2.2.2; rw [HSEC.out, HM.out] at this; exact this))
            have hq := Tk.eqF heq
            generalize Tk.str (Tk.prt m) = a at *
            clear heq
            go_wp2
            refine bodyPost_ret (v := .tuple #[.int .i64 0, .int .i64 2]) (by simp [results, Tryd.results6, go_sem]) rfl ⟨?_, rfl⟩
            unfold Tk.parseN Tk.parseE
            rw [if_neg HN.out, if_neg HN.out]
        · have HN : Hid (¬ Tk.Good s) := Lib.hid (fun h => hr (by have := h.2.2.2.2.1; rw [HSEC.out] at this; exact this))
          go_wp2_with fail
          refine (print_no _ (by omega) _).mono ?_
          rintro e w1 ⟨rfl, rfl⟩
          go_wp2
          refine bodyPost_ret (v := .tuple #[.int .i64 0, .int .i64 2]) (by simp [results, Tryd.results6, go_sem]) rfl ⟨?_, rfl⟩
          unfold Tk.parseN Tk.parseE
          rw [if_neg HN.out, if_neg HN.out]
      · have HN : Hid (¬ Tk.Good s) := Lib.hid (fun h => hall ⟨by rw [← HB1.out]; exact h.2.1, by rw [← HB2.out]; exact h.2.2.1, by rw [← HB3.out]; exact h.2.2.2.1⟩)
        have hc : b1 = false ∨ (b1 = true ∧ b2 = false) ∨ (b1 = true ∧ b2 = true ∧ b3 = false) := by
          cases b1 <;> cases b2 <;> cases b3 <;> simp at hall ⊢
        clear hall
        rcases hc with rfl | ⟨rfl, rfl⟩ | ⟨rfl, rfl, rfl⟩
        all_goals
          go_wp2
          refine bodyPost_ret (v := .tuple #[.int .i64 0, .int .i64 2]) (by simp [results, Tryd.results6, go_sem]) rfl ⟨?_, rfl⟩
          unfold Tk.parseN Tk.parseE
          rw [if_neg HN.out, if_neg HN.out]
    · rw [hn] at l1 l2 l3
      have E1 : Hid (Tk.pH s = (s.extract 0 2).data.toList) := Lib.hid (by unfold Tk.pH; rw [hn])
      have E2 : Hid (Tk.pM s = (s.extract 3 5).data.toList) := Lib.hid (by unfold Tk.pM; rw [hn])
      have E3 : Hid (Tk.pR s = (s.extract 6 8).data.toList) := Lib.hid (by unfold Tk.pR; rw [hn])
      go_enter Tryd.func6, Tryd.ntmps6
      go_wp2_with fail
      refine (digits_to (s.extract 0 2) l1 (n := x) (b := b1) (by rw [← E1.out]; exact HX.out) (by rw [← E1.out]; exact HB1.out) _).mono ?_
      rintro e w1 ⟨rfl, rfl⟩
      go_wp2_with fail
      refine (digits_to (s.extract 3 5) l2 (n := y) (b := b2) (by rw [← E2.out]; exact HY.out) (by rw [← E2.out]; exact HB2.out) _).mono ?_
      rintro e w1 ⟨rfl, rfl⟩
      go_wp2_with fail
      refine (digits_to (s.extract 6 8) l3 (n := z) (b := b3) (by rw [← E3.out]; exact HZ.out) (by rw [← E3.out]; exact HB3.out) _).mono ?_
      rintro e w1 ⟨rfl, rfl⟩
      by_cases hall : b1 = true ∧ b2 = true ∧ b3 = true
      · obtain ⟨rfl, rfl, rfl⟩ := hall
        have HSEC : Hid (Tk.secs s = 3600 * x + 60 * y + z) := Lib.hid (by unfold Tk.secs; rw [HX.out, HY.out, HZ.out])
        by_cases hr : 3600 * x + 60 * y + z ≤ 359999
        · obtain ⟨m, hm⟩ : ∃ m : Nat, 3600 * x + 60 * y + z = m := ⟨(3600 * x + 60 * y + z).toNat, by omega⟩
          have hm2 : m ≤ 359999 := by omega
          have HM := Lib.hid hm
          clear hm
          go_wp2_with fail
          refine (print_to _ m HM.out hm2 _).mono ?_
          rintro e w1 ⟨rfl, rfl⟩
          by_cases heq : Tk.str (Tk.prt m) = s
          · have HG : Hid (Tk.Good s) := Lib.hid ⟨H78.out, HB1.out, HB2.out, HB3.out, by rw [HSEC.out]; exact hr, by rw [HSEC.out, HM.out]; exact heq⟩
            have hq := Tk.eqT heq
            generalize Tk.str (Tk.prt m) = a at *
            clear heq
            go_wp2
            refine bodyPost_ret (v := .tuple #[.int .i64 (3600 * x + 60 * y + z), .int .i64 0]) (by simp [results, Tryd.results6, go_sem]) rfl ⟨?_, rfl⟩
            unfold Tk.parseN Tk.parseE
            rw [if_pos HG.out, if_pos HG.out, HSEC.out]
          · have HN : Hid (¬ Tk.Good s) := Lib.hid (fun h => heq (by have := h.2.2.2.2.2; rw [HSEC.out, HM.out] at this; exact this))
            have hq := Tk.eqF heq
            generalize Tk.str (Tk.prt m) = a at *
            clear heq
            go_wp2
            refine bodyPost_ret (v := .tuple #[.int .i64 0, .int .i64 2]) (by simp [results, Tryd.results6, go_sem]) rfl ⟨?_, rfl⟩
            unfold Tk.parseN Tk.parseE
            rw [if_neg HN.out, if_neg HN.out]
        · have HN : Hid (¬ Tk.Good s) := Lib.hid (fun h => hr (by have := h.2.2.2.2.1; rw [HSEC.out] at this; exact this))
          go_wp2_with fail
          refine (print_no _ (by omega) _).mono ?_
          rintro e w1 ⟨rfl, rfl⟩
          go_wp2
          refine bodyPost_ret (v := .tuple #[.int .i64 0, .int .i64 2]) (by simp [results, Tryd.results6, go_sem]) rfl ⟨?_, rfl⟩
          unfold Tk.parseN Tk.parseE
          rw [if_neg HN.out, if_neg HN.out]
      · have HN : Hid (¬ Tk.Good s) := Lib.hid (fun h => hall ⟨by rw [← HB1.out]; exact h.2.1, by rw [← HB2.out]; exact h.2.2.1, by rw [← HB3.out]; exact h.2.2.2.1⟩)
        have hc : b1 = false ∨ (b1 = true ∧ b2 = false) ∨ (b1 = true ∧ b2 = true ∧ b3 = false) := by
          cases b1 <;> cases b2 <;> cases b3 <;> simp at hall ⊢
        clear hall
        rcases hc with rfl | ⟨rfl, rfl⟩ | ⟨rfl, rfl, rfl⟩
        all_goals
          go_wp2
          refine bodyPost_ret (v := .tuple #[.int .i64 0, .int .i64 2]) (by simp [results, Tryd.results6, go_sem]) rfl ⟨?_, rfl⟩
          unfold Tk.parseN Tk.parseE
          rw [if_neg HN.out, if_neg HN.out]
  · have h7 : ((s.size : Int) != 7) = true := by rw [bne_iff_ne]; omega
    have h8 : ((s.size : Int) != 8) = true := by rw [bne_iff_ne]; omega
    have HN : Hid (¬ Tk.Good s) := Lib.hid (fun h => h78 h.1)
    clear h78
    go_enter Tryd.func6, Tryd.ntmps6
    go_wp2
    refine bodyPost_ret (v := .tuple #[.int .i64 0, .int .i64 2]) (by simp [results, Tryd.results6, go_sem]) rfl ⟨?_, rfl⟩
    unfold Tk.parseN Tk.parseE
    rw [if_neg HN.out, if_neg HN.out]
end Go.Proofs.YtpdboefaedocfaaDoor
