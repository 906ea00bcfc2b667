/- strconv.Itoa below 100: its contract for the walk. Conditions: those of each theorem. -/
import Derived.Test.YthjledbomonfpaaDoorBase
namespace Go.Proofs.YthjledbomonfpaaDoor
open Go.RowKit

namespace Tk
/-- The numeral of a number below 100. -/
def dec (i : Nat) : List UInt8 := if i < 10 then [UInt8.ofNat (48 + i)] else [UInt8.ofNat (48 + i / 10), UInt8.ofNat (48 + i % 10)]
/-- The numeral in two digits. -/
def dec2 (i : Nat) : List UInt8 := [UInt8.ofNat (48 + i / 10), UInt8.ofNat (48 + i % 10)]
def str (l : List UInt8) : ByteArray := ⟨l.toArray⟩
theorem str_append (a b : List UInt8) : str a ++ str b = str (a ++ b) := by
  apply ByteArray.ext
  simp [str]
theorem str_toList (l : List UInt8) : (str l).data.toList = l := rfl
theorem str_eta (s : ByteArray) : str s.data.toList = s := rfl
theorem str_inj {a b : List UInt8} (h : str a = str b) : a = b := by
  have := congrArg (fun s : ByteArray => s.data.toList) h
  exact this
def d36 : ByteArray := ⟨#[48, 49, 50, 51, 52, 53, 54, 55, 56, 57, 97, 98, 99, 100, 101, 102, 103, 104, 105, 106, 107, 108, 109, 110, 111, 112, 113, 114, 115, 116, 117, 118, 119, 120, 121, 122]⟩
def d200 : ByteArray := ⟨#[48, 48, 48, 49, 48, 50, 48, 51, 48, 52, 48, 53, 48, 54, 48, 55, 48, 56, 48, 57, 49, 48, 49, 49, 49, 50, 49, 51, 49, 52, 49, 53, 49, 54, 49, 55, 49, 56, 49, 57, 50, 48, 50, 49, 50, 50, 50, 51, 50, 52, 50, 53, 50, 54, 50, 55, 50, 56, 50, 57, 51, 48, 51, 49, 51, 50, 51, 51, 51, 52, 51, 53, 51, 54, 51, 55, 51, 56, 51, 57, 52, 48, 52, 49, 52, 50, 52, 51, 52, 52, 52, 53, 52, 54, 52, 55, 52, 56, 52, 57, 53, 48, 53, 49, 53, 50, 53, 51, 53, 52, 53, 53, 53, 54, 53, 55, 53, 56, 53, 57, 54, 48, 54, 49, 54, 50, 54, 51, 54, 52, 54, 53, 54, 54, 54, 55, 54, 56, 54, 57, 55, 48, 55, 49, 55, 50, 55, 51, 55, 52, 55, 53, 55, 54, 55, 55, 55, 56, 55, 57, 56, 48, 56, 49, 56, 50, 56, 51, 56, 52, 56, 53, 56, 54, 56, 55, 56, 56, 56, 57, 57, 48, 57, 49, 57, 50, 57, 51, 57, 52, 57, 53, 57, 54, 57, 55, 57, 56, 57, 57]⟩
theorem small10 : ∀ i : Fin 10, d36.extract i.val (i.val + 1) = str (dec i.val) := by decide +kernel
theorem small100 : ∀ i : Fin 100, 10 ≤ i.val → d200.extract (i.val * 2) (i.val * 2 + 2) = str (dec i.val) := by decide +kernel
theorem zero_dec {i : Nat} (h : i < 10) : str [48] ++ str (dec i) = str (dec2 i) := by
  rw [str_append]
  unfold dec dec2
  rw [if_pos h, show i / 10 = 0 by omega, show i % 10 = i by omega]
  rfl
theorem str_size (l : List UInt8) : (str l).size = l.length := by simp [str, ByteArray.size]
theorem dec_len (i : Nat) : (dec i).length ≤ 2 := by unfold dec; split <;> simp
theorem dec_size (i : Nat) : (str (dec i)).size ≤ 2 := by rw [str_size]; exact dec_len i
theorem dec2_size (i : Nat) : (str (dec2 i)).size = 2 := by rw [str_size]; rfl
theorem dec_two {i : Nat} (h : ¬ i < 10) : dec i = dec2 i := by unfold dec dec2; rw [if_neg h]
end Tk
theorem ret_str {a b : ByteArray} (h : a = b) : Ending.returned (.string a) = .returned (.string b) := by rw [h]

set_option maxRecDepth 100000 in
set_option maxHeartbeats 400000 in
theorem small_any (i : Nat) (hi : i < 100) (w : World) :
    Calls Tryd.prog 41 #[.int .i64 i] w fun e w' => e = .returned (.string (Tk.str (Tk.dec i))) ∧ w' = w := by
  by_cases h : i < 10
  · have h' : (i : Int) < 10 := by omega
    go_enter Tryd.func41, Tryd.ntmps41
    go_wp2
    go_ret
    exact ⟨ret_str (Tk.small10 ⟨i, h⟩), rfl⟩
  · have h' : ¬ (i : Int) < 10 := by omega
    go_enter Tryd.func41, Tryd.ntmps41
    go_wp2
    go_ret
    exact ⟨ret_str (Tk.small100 ⟨i, hi⟩ (by simp; omega)), rfl⟩
set_option maxHeartbeats 400000 in
theorem format_any (i : Nat) (hi : i < 100) (w : World) :
    Calls Tryd.prog 34 #[.int .i64 i, .int .i64 10] w fun e w' => e = .returned (.string (Tk.str (Tk.dec i))) ∧ w' = w := by
  have h' : (i : Int) < 100 := by omega
  go_enter Tryd.func34, Tryd.ntmps34
  go_wp2_with fail
  refine (small_any i hi _).mono ?_
  rintro e w1 ⟨rfl, rfl⟩
  go_wp2
  go_ret
  exact ⟨rfl, rfl⟩
set_option maxHeartbeats 400000 in
theorem itoaI_any (i : Nat) (hi : i < 100) (w : World) :
    Calls Tryd.prog 27 #[.int .i64 i] w fun e w' => e = .returned (.string (Tk.str (Tk.dec i))) ∧ w' = w := by
  go_enter Tryd.func27, Tryd.ntmps27
  go_wp2_with fail
  refine (format_any i hi _).mono ?_
  rintro e w1 ⟨rfl, rfl⟩
  go_wp2
  go_ret
  exact ⟨rfl, rfl⟩
set_option maxHeartbeats 400000 in
theorem itoa_any (i : Nat) (hi : i < 100) (w : World) :
    Calls Tryd.prog 24 #[.int .i64 i] w fun e w' => e = .returned (.string (Tk.str (Tk.dec i))) ∧ w' = w := by
  go_enter Tryd.func24, Tryd.ntmps24
  go_wp2_with fail
  refine (itoaI_any i hi _).mono ?_
  rintro e w1 ⟨rfl, rfl⟩
  go_wp2
  go_ret
  exact ⟨rfl, rfl⟩
end Go.Proofs.YthjledbomonfpaaDoor
