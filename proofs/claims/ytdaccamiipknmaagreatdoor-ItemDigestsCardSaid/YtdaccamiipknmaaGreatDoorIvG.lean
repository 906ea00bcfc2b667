/- digest.Add, digest.Of and the reference's: contracts. Conditions: those of each theorem. -/
import Derived.Test.YtdaccamiipknmaaGreatDoorItC
namespace Go.Proofs.YtdaccamiipknmaaGreatDoor
open Go.RowKit

/-- A slice of bytes. -/
def SlU (w : World) (A : Option Addr) (xs : List Int) : Prop := Sl w 1 A (xs.map fun x => [.int .u8 x])
theorem SlU.ext {w w' : World} {A : Option Addr} {xs : List Int} (h : SlU w A xs) (he : Ext w w') : SlU w' A xs := Sl.ext h he
theorem SlU.at_ {w : World} {A : Option Addr} {xs : List Int} (h : SlU w A xs) {i : Nat} (hi : i < xs.length) :
    ∃ b off, A = some ⟨b, off, none⟩ ∧ b < w.heap.size ∧ w.cell? ⟨b, off + i, none⟩ = some (.int .u8 xs[i]) := by
  obtain ⟨b, off, hA, hb, hc⟩ := Sl.at_ (i := i) (cs := [.int .u8 xs[i]]) h (by simp [hi])
  exact ⟨b, off, hA, hb, by simpa using hc 0 _ rfl⟩
/-- A digest after one more byte. -/
def dgS (h c : Int) : Int := IntKind.u64.wrap (bits BinOp.xor IntKind.u64 h (IntKind.u64.wrap c) * 1099511628211)
def dgA (h : Int) (xs : List Int) : Int := xs.foldl dgS h
/-- The digest of bytes. -/
def dgOf (xs : List Int) : Int := dgA 14695981039346656037 xs
theorem dgA_next {h : Int} {xs : List Int} {k : Nat} {c : Int} (hc : xs[k]? = some c) : dgA h (xs.take (k + 1)) = dgS (dgA h (xs.take k)) c := by
  unfold dgA; rw [List.take_add_one, hc, List.foldl_append]; rfl
set_option maxRecDepth 100000 in
set_option maxHeartbeats 1600000 in
theorem extend_any (h c : Int) (w : World) : Calls Tryz.prog 85 #[.int .u64 h, .int .u8 c] w fun e w' => e = .returned (.int .u64 (dgS h c)) ∧ w = w' := by
  go_enter Tryz.func85, Tryz.ntmps85
  go_wp2
  go_ret
  exact ⟨rfl, rfl⟩
set_option maxRecDepth 100000 in
set_option maxHeartbeats 3200000 in
theorem radd_any (h : Int) (A : Option Addr) (c : Nat) (xs : List Int) (w : World) (hs : SlU w A xs) (hl : xs.length ≤ 9223372036854775807) : Calls Tryz.prog 70 #[.int .u64 h, .slice A xs.length c] w fun e w' => e = .returned (.int .u64 (dgA h xs)) ∧ w = w' := by
  have H := Lib.hid hs
  clear hs
  obtain ⟨n, hn⟩ : ∃ n, xs.length = n := ⟨_, rfl⟩
  rw [hn] at hl ⊢
  have HN := Lib.hid hn
  clear hn
  go_enter Tryz.func70, Tryz.ntmps70
  go_wp2
  go_loop [0, 5] (fun m i => ∃ k : Nat, k ≤ n ∧ i = .int .i64 k ∧ m = .int .u64 (dgA h (xs.take k))) (fun _ i => n - (intOf i).toNat)
  case atStart => exact ⟨0, by omega, rfl, rfl⟩
  case round =>
    obtain ⟨k, hk, rfl, rfl⟩ := hrel
    by_cases hlt : k < n
    · have hlt' : k < xs.length := by rw [HN.out]; exact hlt
      obtain ⟨gb, go, rfl, hgb, x0⟩ := H.out.at_ hlt'
      have HX := Lib.hid (dgA_next (h := h) (List.getElem?_eq_getElem hlt'))
      generalize xs[k] = y at *
      have ki0 : (0 : Int) ≤ (k : Int) := by omega
      have ki1 : (k : Int) < (n : Int) := by omega
      clear hlt'
      go_wp2_with fail
      with_reducible refine (extend_any _ _ _).mono ?_
      rintro e w1 ⟨rfl, rfl⟩
      go_wp2
      go_round
      case rel => exact ⟨k + 1, by omega, by go_num, by rw [HX.out]⟩
      case measure => simp [intOf]; omega
    · obtain rfl : k = n := by omega
      have hf : xs.take k = xs := by rw [← HN.out, List.take_length]
      rw [hf]
      clear hf
      go_wp2
      go_ret
      exact ⟨rfl, rfl⟩
set_option maxRecDepth 100000 in
set_option maxHeartbeats 3200000 in
theorem add_dg (h : Int) (A : Option Addr) (c : Nat) (xs : List Int) (w : World) (hs : SlU w A xs) (hl : xs.length ≤ 9223372036854775807) : Calls Tryz.prog 59 #[.int .u64 h, .slice A xs.length c] w fun e w' => e = .returned (.int .u64 (dgA h xs)) ∧ w = w' := by
  have H := Lib.hid hs
  clear hs
  obtain ⟨n, hn⟩ : ∃ n, xs.length = n := ⟨_, rfl⟩
  rw [hn] at hl ⊢
  have HN := Lib.hid hn
  clear hn
  go_enter Tryz.func59, Tryz.ntmps59
  go_wp2
  go_loop [0, 9] (fun m i => ∃ k : Nat, k ≤ n ∧ i = .int .i64 k ∧ m = .int .u64 (dgA h (xs.take k))) (fun _ i => n - (intOf i).toNat)
  case atStart => exact ⟨0, by omega, rfl, rfl⟩
  case round =>
    obtain ⟨k, hk, rfl, rfl⟩ := hrel
    by_cases hlt : k < n
    · have hlt' : k < xs.length := by rw [HN.out]; exact hlt
      obtain ⟨gb, go, rfl, hgb, x0⟩ := H.out.at_ hlt'
      have HX := Lib.hid (dgA_next (h := h) (List.getElem?_eq_getElem hlt'))
      generalize xs[k] = y at *
      have ki0 : (0 : Int) ≤ (k : Int) := by omega
      have ki1 : (k : Int) < (n : Int) := by omega
      clear hlt'
      go_wp2
      go_round
      case rel => exact ⟨k + 1, by omega, by go_num, by rw [HX.out]; rfl⟩
      case measure => simp [intOf]; omega
    · obtain rfl : k = n := by omega
      have hf : xs.take k = xs := by rw [← HN.out, List.take_length]
      rw [hf]
      clear hf
      go_wp2
      go_ret
      exact ⟨rfl, rfl⟩
set_option maxRecDepth 100000 in
theorem of_dg (A : Option Addr) (c : Nat) (xs : List Int) (w : World) (hs : SlU w A xs) (hl : xs.length ≤ 9223372036854775807) : Calls Tryz.prog 24 #[.slice A xs.length c] w fun e w' => e = .returned (.int .u64 (dgOf xs)) ∧ w = w' := by
  have H := Lib.hid (add_dg 14695981039346656037 A c xs w hs hl)
  clear hs
  go_enter Tryz.func24, Tryz.ntmps24
  go_wp2_with fail
  refine H.out.mono ?_
  rintro e w1 ⟨rfl, rfl⟩
  go_wp2
  go_ret
  exact ⟨rfl, rfl⟩
set_option maxRecDepth 100000 in
theorem rof_dg (A : Option Addr) (c : Nat) (xs : List Int) (w : World) (hs : SlU w A xs) (hl : xs.length ≤ 9223372036854775807) : Calls Tryz.prog 50 #[.slice A xs.length c] w fun e w' => e = .returned (.int .u64 (dgOf xs)) ∧ w = w' := by
  have H := Lib.hid (radd_any 14695981039346656037 A c xs w hs hl)
  clear hs
  go_enter Tryz.func50, Tryz.ntmps50
  go_wp2_with fail
  refine H.out.mono ?_
  rintro e w1 ⟨rfl, rfl⟩
  go_wp2
  go_ret
  exact ⟨rfl, rfl⟩
end Go.Proofs.YtdaccamiipknmaaGreatDoor
