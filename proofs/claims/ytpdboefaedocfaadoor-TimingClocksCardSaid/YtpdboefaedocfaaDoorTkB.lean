/- timing's Print and digits: contracts for the walk. Conditions: those of each theorem. -/
import Derived.Test.YtpdboefaedocfaaDoorTkA
namespace Go.Proofs.YtpdboefaedocfaaDoor
open Go.RowKit

namespace Tk
/-- The printed form of a number of seconds. -/
def prt (n : Nat) : List UInt8 := dec (n / 3600) ++ [58] ++ dec2 (n / 60 % 60) ++ [58] ++ dec2 (n % 60)
def isD (c : UInt8) : Bool := decide (48 ≤ (c.toNat : Int) ∧ (c.toNat : Int) ≤ 57)
def val (l : List UInt8) : Int := l.foldl (fun n c => 10 * n + ((c.toNat : Int) - 48)) 0
def okD (l : List UInt8) : Bool := l.all isD
/-- What digits returns. -/
def dN (l : List UInt8) : Int := if okD l then val l else 0
theorem val_snoc (l : List UInt8) (c : UInt8) : val (l ++ [c]) = 10 * val l + ((c.toNat : Int) - 48) := by unfold val; rw [List.foldl_append]; rfl
theorem ok_snoc (l : List UInt8) (c : UInt8) : okD (l ++ [c]) = (okD l && isD c) := by unfold okD; rw [List.all_append]; simp
theorem isD_iff (c : UInt8) : isD c = true ↔ 48 ≤ (c.toNat : Int) ∧ (c.toNat : Int) ≤ 57 := by unfold isD; simp
theorem val_bd : ∀ (l : List UInt8), okD l = true → l.length ≤ 2 → 0 ≤ val l ∧ val l ≤ 99 ∧ (l.length ≤ 1 → val l ≤ 9)
  | [], _, _ => by simp [val]
  | [a], h, _ => by
    simp [okD, isD] at h
    simp [val]; omega
  | [a, b], h, _ => by
    simp [okD, isD] at h
    simp [val]; omega
  | a :: b :: c :: l, _, h => by simp at h
theorem take_snoc (s : ByteArray) (k : Nat) (h : k < s.size) : s.data.toList.take (k + 1) = s.data.toList.take k ++ [s[k]] := by
  rw [List.take_succ_eq_append_getElem (by simpa using h)]; rfl
theorem ok_of_take {l : List UInt8} {k : Nat} (h : okD (l.take k) = false) : okD l = false := by
  unfold okD at *
  rw [List.all_eq_false] at *
  obtain ⟨x, hx, h⟩ := h
  exact ⟨x, List.mem_of_mem_take hx, h⟩
end Tk

theorem itoa_to (x : Int) (i : Nat) (hx : x = i) (hi : i < 100) (w : World) :
    Calls Tryd.prog 11 #[.int .i64 x] w fun e w' => e = .returned (.string (Tk.str (Tk.dec i))) ∧ w' = w := by
  subst hx
  exact itoa_any i hi w
theorem two_to (x : Int) (i : Nat) (hx : x = i) (hi : i < 100) (w : World) :
    Calls Tryd.prog 12 #[.int .i64 x] w fun e w' => e = .returned (.string (Tk.str (Tk.dec2 i))) ∧ w' = w := by
  subst hx
  exact two_any i hi w
set_option maxHeartbeats 800000 in
theorem print_ok (n : Nat) (hn : n ≤ 359999) (w : World) :
    Calls Tryd.prog 5 #[.int .i64 n] w fun e w' => e = .returned (.tuple #[.string (Tk.str (Tk.prt n)), .int .i64 0]) ∧ w' = w := by
  have h1 : ¬ (359999 : Int) < (n : Int) := by omega
  have q1 : n / 3600 < 100 := by omega
  have q2 : n / 60 % 60 < 100 := by omega
  have q3 : n % 60 < 100 := by omega
  go_enter Tryd.func5, Tryd.ntmps5
  go_wp2_with fail
  refine (itoa_to _ (n / 3600) (by omega) q1 _).mono ?_
  rintro e w1 ⟨rfl, rfl⟩
  have hs1 := Tk.dec_size (n / 3600)
  obtain ⟨a, ha⟩ : ∃ a, Tk.str (Tk.dec (n / 3600)) = a := ⟨_, rfl⟩
  rw [ha] at hs1 ⊢
  have HA := Lib.hid ha
  clear ha
  have g1 : ¬ 9223372036854775807 < a.size + 1 := by omega
  go_wp2_with fail
  refine (two_to _ (n / 60 % 60) (by omega) q2 _).mono ?_
  rintro e w2 ⟨rfl, rfl⟩
  have hs2 := Tk.dec2_size (n / 60 % 60)
  obtain ⟨b, hb⟩ : ∃ b, Tk.str (Tk.dec2 (n / 60 % 60)) = b := ⟨_, rfl⟩
  rw [hb] at hs2 ⊢
  have HB := Lib.hid hb
  have HS2 := Lib.hid hs2
  clear hb
  have g2 : ¬ 9223372036854775807 < a.size + 1 + b.size := by omega
  have g3 : ¬ 9223372036854775807 < a.size + 1 + b.size + 1 := by omega
  have hb2 : b.size ≤ 2 := by omega
  clear hs2
  go_wp2_with fail
  refine (two_to _ (n % 60) (by omega) q3 _).mono ?_
  rintro e w3 ⟨rfl, rfl⟩
  have hs3 := Tk.dec2_size (n % 60)
  obtain ⟨c, hc⟩ : ∃ c, Tk.str (Tk.dec2 (n % 60)) = c := ⟨_, rfl⟩
  rw [hc] at hs3 ⊢
  have HC := Lib.hid hc
  clear hc
  have g4 : ¬ 9223372036854775807 < a.size + 1 + b.size + 1 + c.size := by omega
  clear hs3
  go_wp2
  refine bodyPost_ret (v := .tuple #[.string (a ++ ⟨#[58]⟩ ++ b ++ ⟨#[58]⟩ ++ c), .int .i64 0]) (by simp [results, Tryd.results5, go_sem]) rfl ⟨?_, rfl⟩
  rw [← HA.out, ← HB.out, ← HC.out]
  rw [show (⟨#[58]⟩ : ByteArray) = Tk.str [58] from rfl, Tk.str_append, Tk.str_append, Tk.str_append, Tk.str_append]
  rfl
theorem print_no (n : Int) (hn : n < 0 ∨ 359999 < n) (w : World) :
    Calls Tryd.prog 5 #[.int .i64 n] w fun e w' => e = .returned (.tuple #[.string ⟨#[]⟩, .int .i64 3]) ∧ w' = w := by
  have hn' : n < 0 ∨ (0 ≤ n ∧ 359999 < n) := by omega
  clear hn
  rcases hn' with h | ⟨h, h'⟩
  all_goals
    go_enter Tryd.func5, Tryd.ntmps5
    go_wp2
    exact bodyPost_ret (v := .tuple #[.string ⟨#[]⟩, .int .i64 3]) (by simp [results, Tryd.results5, go_sem]) rfl ⟨rfl, rfl⟩

set_option maxHeartbeats 800000 in
theorem digits_any (s : ByteArray) (hs : s.size ≤ 2) (w : World) :
    Calls Tryd.prog 13 #[.string s] w fun e w' => e = .returned (.tuple #[.int .i64 (Tk.dN s.data.toList), .bool (Tk.okD s.data.toList)]) ∧ w' = w := by
  go_enter Tryd.func13, Tryd.ntmps13
  go_wp2
  go_loop [4, 8] (fun n i => ∃ k : Nat, k ≤ s.size ∧ i = .int .i64 k ∧ n = .int .i64 (Tk.val (s.data.toList.take k)) ∧ Tk.okD (s.data.toList.take k) = true) (fun _ i => s.size - (intOf i).toNat)
  case atStart => exact ⟨0, Nat.zero_le _, rfl, rfl, rfl⟩
  case round =>
    obtain ⟨k, hk, rfl, rfl, hok⟩ := hrel
    have hl : (s.data.toList.take k).length ≤ k := List.length_take_le _ _
    have hb := Tk.val_bd _ hok (by omega)
    obtain ⟨v, hv⟩ : ∃ v, Tk.val (s.data.toList.take k) = v := ⟨_, rfl⟩
    rw [hv] at hb ⊢
    have HV := Lib.hid hv
    have HOK := Lib.hid hok
    clear hv hok
    by_cases hlt : k < s.size
    · have hb9 : v ≤ 9 := hb.2.2 (by omega)
      obtain ⟨hb0, hb1, -⟩ := hb
      clear hl
      have HT := Lib.hid (Tk.take_snoc s k hlt)
      by_cases hd : 48 ≤ (s[k].toNat : Int) ∧ (s[k].toNat : Int) ≤ 57
      · obtain ⟨d1, d2⟩ := hd
        go_wp2
        go_round
        case rel =>
          refine ⟨k + 1, by omega, by go_num, ?_, ?_⟩
          · rw [HT.out, Tk.val_snoc, HV.out]
          · rw [HT.out, Tk.ok_snoc, HOK.out]
            simp [Tk.isD_iff]; omega
        case measure => simp [intOf]; omega
      · have HD : Hid (Tk.okD s.data.toList = false) := Lib.hid (Tk.ok_of_take (k := k + 1) (by rw [HT.out, Tk.ok_snoc, HOK.out]; simpa [Tk.isD] using hd))
        have hd' : (s[k].toNat : Int) < 48 ∨ (48 ≤ (s[k].toNat : Int) ∧ 57 < (s[k].toNat : Int)) := by omega
        clear hd
        rcases hd' with d1 | ⟨d1, d2⟩
        all_goals
          go_wp2
          refine bodyPost_ret (v := .tuple #[.int .i64 0, .bool false]) (by simp [results, Tryd.results13, go_sem]) rfl ⟨?_, rfl⟩
          unfold Tk.dN
          rw [HD.out]
          rfl
    · have HALL : Hid (s.data.toList.take k = s.data.toList) := Lib.hid (List.take_of_length_le (by simp; omega))
      clear hb hl
      go_wp2
      refine bodyPost_ret (v := .tuple #[.int .i64 v, .bool true]) (by simp [results, Tryd.results13, go_sem]) rfl ⟨?_, rfl⟩
      have h1 := HOK.out
      have h2 := HV.out
      rw [HALL.out] at h1 h2
      unfold Tk.dN
      rw [h1, ← h2]
      rfl
end Go.Proofs.YtpdboefaedocfaaDoor
