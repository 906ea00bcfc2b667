/- Left in both; the reference's two and Print: contracts for the walk. Conditions: those of each theorem. -/
import Derived.Test.YtpdboefaedocfaaDoorTkC
namespace Go.Proofs.YtpdboefaedocfaaDoor
open Go.RowKit

namespace Tk
def left (l u : Int) : Int := max (max l 0 - max u 0) 0
theorem dec2_cut {i : Nat} (h : i < 100) : (i < 10 → (dec2 i).headD 0 = 48 ∧ (str (dec2 i)).extract 1 2 = str (dec i)) ∧ (¬ i < 10 → (dec2 i).headD 0 ≠ 48) := by
  have hall : ∀ i : Fin 100, (i.val < 10 → (dec2 i.val).headD 0 = 48 ∧ (str (dec2 i.val)).extract 1 2 = str (dec i.val)) ∧ (¬ i.val < 10 → (dec2 i.val).headD 0 ≠ 48) := by decide +kernel
  exact hall ⟨i, h⟩
end Tk

set_option maxHeartbeats 400000 in
theorem left_any (l u : Int) (w : World) (hl : -9223372036854775808 ≤ l ∧ l ≤ 9223372036854775807) (hu : -9223372036854775808 ≤ u ∧ u ≤ 9223372036854775807) :
    Calls Tryd.prog 7 #[.int .i64 l, .int .i64 u] w fun e w' => e = .returned (.int .i64 (Tk.left l u)) ∧ w' = w := by
  go_enter Tryd.func7, Tryd.ntmps7
  go_wp2
  all_goals
    go_ret
    exact ⟨ret_int (by unfold Tk.left; omega), rfl⟩
set_option maxHeartbeats 400000 in
theorem refLeft_any (l u : Int) (w : World) (hl : -9223372036854775808 ≤ l ∧ l ≤ 9223372036854775807) (hu : -9223372036854775808 ≤ u ∧ u ≤ 9223372036854775807) :
    Calls Tryd.prog 8 #[.int .i64 l, .int .i64 u] w fun e w' => e = .returned (.int .i64 (Tk.left l u)) ∧ w' = w := by
  go_enter Tryd.func8, Tryd.ntmps8
  go_wp2
  all_goals
    go_ret
    exact ⟨ret_int (by unfold Tk.left; omega), rfl⟩
set_option maxHeartbeats 400000 in
theorem refTwo_any (i : Nat) (hi : i < 100) (w : World) :
    Calls Tryd.prog 14 #[.int .i64 i] w fun e w' => e = .returned (.string (Tk.str (Tk.dec2 i))) ∧ Ext w w' := by
  have q1 : (i : Int) / 10 < 10 := by omega
  have q2 : (i : Int) % 10 < 10 := by omega
  have hconv : (convert 33 9 (.slice (some ⟨w.heap.size, 0, none⟩) 2 2)).run Tryd.prog (w.alloc (.cells #[.int .u8 (48 + (i : Int) / 10), .int .u8 (48 + (i : Int) % 10)] 5)) = .ok (.string (Tk.str (Tk.dec2 i))) (w.alloc (.cells #[.int .u8 (48 + (i : Int) / 10), .int .u8 (48 + (i : Int) % 10)] 5)) := by
    refine run_convert_bytes_back (l := Tk.dec2 i) _ _ _ 5 _ _ Tryd.underlying33 Tryd.underlying5 Tryd.underlying9 (fun j hj => ?_)
    have hj2 : j < 2 := hj
    match j, hj2 with
    | 0, _ => simp [go_sem, Tk.dec2, Addr.add]; omega
    | 1, _ => simp [go_sem, Tk.dec2, Addr.add]; omega
  go_enter Tryd.func14, Tryd.ntmps14
  go_wp2
  go_ret
  exact ⟨rfl, (Ext.refl _).alloc _⟩
theorem refTwo_to (x : Int) (i : Nat) (hx : x = i) (hi : i < 100) (w : World) :
    Calls Tryd.prog 14 #[.int .i64 x] w fun e w' => e = .returned (.string (Tk.str (Tk.dec2 i))) ∧ Ext w w' := by
  subst hx
  exact refTwo_any i hi w
theorem refPrint_no (n : Int) (hn : n < 0 ∨ 359999 < n) (w : World) :
    Calls Tryd.prog 9 #[.int .i64 n] w fun e w' => e = .returned (.tuple #[.string ⟨#[]⟩, .int .i64 3]) ∧ w' = w := by
  have hn' : n < 0 ∨ (0 ≤ n ∧ 359999 < n) := by omega
  clear hn
  rcases hn' with h | ⟨h, h'⟩
  all_goals
    go_enter Tryd.func9, Tryd.ntmps9
    go_wp2
    exact bodyPost_ret (v := .tuple #[.string ⟨#[]⟩, .int .i64 3]) (by simp [results, Tryd.results9, go_sem]) rfl ⟨rfl, rfl⟩

set_option maxHeartbeats 1600000 in
theorem refPrint_ok (n : Nat) (hn : n ≤ 359999) (w : World) :
    Calls Tryd.prog 9 #[.int .i64 n] w fun e w' => e = .returned (.tuple #[.string (Tk.str (Tk.prt n)), .int .i64 0]) ∧ Ext w w' := by
  have h1 : ¬ (359999 : Int) < (n : Int) := by omega
  have q1 : n / 3600 < 100 := by omega
  have q2 : n / 60 % 60 < 100 := by omega
  have q3 : n % 60 < 100 := by omega
  have hcut := Tk.dec2_cut q1
  have hs0 := Tk.dec2_size (n / 3600)
  have hhd : (Tk.str (Tk.dec2 (n / 3600)))[0]'(by rw [hs0]; omega) = (Tk.dec2 (n / 3600)).headD 0 := rfl
  have hs1 := Tk.dec_size (n / 3600)
  obtain ⟨a, ha⟩ : ∃ a, Tk.str (Tk.dec (n / 3600)) = a := ⟨_, rfl⟩
  rw [ha] at hs1 hcut
  have HA := Lib.hid ha
  clear ha
  obtain ⟨b0, hb0⟩ : ∃ b, Tk.str (Tk.dec2 (n / 3600)) = b := ⟨_, rfl⟩
  have HB0 := Lib.hid hb0
  have hz : b0.size = 2 := by rw [← hb0]; exact hs0
  have hhd' : b0[0]'(by omega) = (Tk.dec2 (n / 3600)).headD 0 := by subst hb0; exact hhd
  rw [hb0] at hcut
  clear hb0 hs0 hhd
  by_cases h10 : n / 3600 < 10
  · obtain ⟨c1, c2⟩ := hcut.1 h10
    rw [c1] at hhd'
    have hh : ((b0[0]'(by omega)).toNat : Int) = 48 := by rw [hhd']; rfl
    clear hcut c1 hhd'
    go_enter Tryd.func9, Tryd.ntmps9
    go_wp2_with fail
    refine (refTwo_to _ (n / 3600) (by omega) q1 _).mono ?_
    rintro e w1 ⟨rfl, hw1⟩
    rw [HB0.out]
    have g1 : ¬ 9223372036854775807 < a.size + 1 := by omega
    go_wp2_with fail
    refine (refTwo_to _ (n / 60 % 60) (by omega) q2 _).mono ?_
    rintro e w2 ⟨rfl, hw2⟩
    have hs2 := Tk.dec2_size (n / 60 % 60)
    obtain ⟨b, hb⟩ : ∃ b, Tk.str (Tk.dec2 (n / 60 % 60)) = b := ⟨_, rfl⟩
    rw [hb] at hs2 ⊢
    have HB := Lib.hid hb
    clear hb
    have g2 : ¬ 9223372036854775807 < a.size + 1 + b.size := by omega
    have g3 : ¬ 9223372036854775807 < a.size + 1 + b.size + 1 := by omega
    have hb2 : b.size ≤ 2 := by omega
    clear hs2
    go_wp2_with fail
    refine (refTwo_to _ (n % 60) (by omega) q3 _).mono ?_
    rintro e w3 ⟨rfl, hw3⟩
    have hs3 := Tk.dec2_size (n % 60)
    obtain ⟨c, hc⟩ : ∃ c, Tk.str (Tk.dec2 (n % 60)) = c := ⟨_, rfl⟩
    rw [hc] at hs3 ⊢
    have HC := Lib.hid hc
    clear hc
    have g4 : ¬ 9223372036854775807 < a.size + 1 + b.size + 1 + c.size := by omega
    clear hs3
    go_wp2
    refine bodyPost_ret (v := .tuple #[.string (a ++ ⟨#[58]⟩ ++ b ++ ⟨#[58]⟩ ++ c), .int .i64 0]) (by simp [results, Tryd.results9, go_sem]) rfl ⟨?_, hw1.trans (hw2.trans hw3)⟩
    rw [← HA.out, ← HB.out, ← HC.out]
    rw [show (⟨#[58]⟩ : ByteArray) = Tk.str [58] from rfl, Tk.str_append, Tk.str_append, Tk.str_append, Tk.str_append]
    rfl
  · have c1 := hcut.2 h10
    rw [← hhd'] at c1
    have hh : (((b0[0]'(by omega)).toNat : Int) == 48) = false := by
      rw [beq_eq_false_iff_ne]
      intro e
      exact c1 (UInt8.toNat_inj.1 (by have : (b0[0]'(by omega)).toNat = 48 := by omega
                                      rw [this]; rfl))
    have hd2 : Hid (Tk.dec (n / 3600) = Tk.dec2 (n / 3600)) := Lib.hid (Tk.dec_two h10)
    clear hcut c1 hhd'
    go_enter Tryd.func9, Tryd.ntmps9
    go_wp2_with fail
    refine (refTwo_to _ (n / 3600) (by omega) q1 _).mono ?_
    rintro e w1 ⟨rfl, hw1⟩
    rw [HB0.out]
    have g1 : ¬ 9223372036854775807 < b0.size + 1 := by omega
    go_wp2_with fail
    refine (refTwo_to _ (n / 60 % 60) (by omega) q2 _).mono ?_
    rintro e w2 ⟨rfl, hw2⟩
    have hs2 := Tk.dec2_size (n / 60 % 60)
    obtain ⟨b, hb⟩ : ∃ b, Tk.str (Tk.dec2 (n / 60 % 60)) = b := ⟨_, rfl⟩
    rw [hb] at hs2 ⊢
    have HB := Lib.hid hb
    clear hb
    have g2 : ¬ 9223372036854775807 < b0.size + 1 + b.size := by omega
    have g3 : ¬ 9223372036854775807 < b0.size + 1 + b.size + 1 := by omega
    have hb2 : b.size ≤ 2 := by omega
    clear hs2
    go_wp2_with fail
    refine (refTwo_to _ (n % 60) (by omega) q3 _).mono ?_
    rintro e w3 ⟨rfl, hw3⟩
    have hs3 := Tk.dec2_size (n % 60)
    obtain ⟨c, hc⟩ : ∃ c, Tk.str (Tk.dec2 (n % 60)) = c := ⟨_, rfl⟩
    rw [hc] at hs3 ⊢
    have HC := Lib.hid hc
    clear hc
    have g4 : ¬ 9223372036854775807 < b0.size + 1 + b.size + 1 + c.size := by omega
    clear hs3
    go_wp2
    refine bodyPost_ret (v := .tuple #[.string (b0 ++ ⟨#[58]⟩ ++ b ++ ⟨#[58]⟩ ++ c), .int .i64 0]) (by simp [results, Tryd.results9, go_sem]) rfl ⟨?_, hw1.trans (hw2.trans hw3)⟩
    rw [← HB0.out, ← hd2.out, ← HB.out, ← HC.out]
    rw [show (⟨#[58]⟩ : ByteArray) = Tk.str [58] from rfl, Tk.str_append, Tk.str_append, Tk.str_append, Tk.str_append]
    rfl
end Go.Proofs.YtpdboefaedocfaaDoor
