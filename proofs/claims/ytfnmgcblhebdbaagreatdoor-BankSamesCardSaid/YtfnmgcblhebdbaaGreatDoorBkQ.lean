/- The outline of one topic: contracts for the law's first example. Conditions: those of each theorem. -/
import Derived.Test.YtfnmgcblhebdbaaGreatDoorBkN
import Derived.Test.YtfnmgcblhebdbaaGreatDoorItG
import Derived.WalkMore
import Derived.Deep.LoopGhost
namespace Go.Proofs.YtfnmgcblhebdbaaGreatDoor
open Go.RowKit
namespace Bk
def cA : ByteArray := ⟨#[65]⟩
def cT : ByteArray := ⟨#[65, 108, 103, 101, 98, 114, 97]⟩
theorem codeA : It.codeC cA = true := by decide +kernel
set_option maxRecDepth 100000 in
set_option maxHeartbeats 12800000 in
theorem lastA_any (w : World) : Calls Tryz.prog 143 #[.string cA, .int .u8 46] w fun e w' => e = .returned (.int .i64 (-1)) ∧ Ext w w' := by
  go_enter Tryz.func143, Tryz.ntmps143
  have hs : (cA.size : Int) = 1 := rfl
  have h0 : 0 < cA.size := by decide
  have hb : (cA[0] : UInt8) = 65 := rfl
  have hb2 : ((cA[0] : UInt8).toNat : Int) = 65 := rfl
  go_wp2
  go_loopw [5] (fun i wr => ((i = .int .i64 0) ∨ (i = .int .i64 (-1))) ∧ Hid (Ext w wr)) (fun i _ => (intOf i + 1).toNat)
  case atStart => exact ⟨Or.inl (by first | rfl | simp [cA]), Lib.hid (Ext.refl _)⟩
  case round =>
    obtain ⟨hi, HE⟩ := hrel
    rcases hi with rfl | rfl
    · go_wp2
      go_roundw
      case rel => exact ⟨Or.inr rfl, HE⟩
      case measure => simp [intOf]
    · go_wp2
      go_ret
      exact ⟨rfl, HE.out⟩
set_option maxRecDepth 100000 in
set_option maxHeartbeats 12800000 in
theorem lastB_any (w : World) : Calls Tryz.prog 120 #[.string cA, .int .u8 46] w fun e w' => e = .returned (.int .i64 (-1)) ∧ Ext w w' := by
  have K := Lib.hid (lastA_any w)
  go_enter Tryz.func120, Tryz.ntmps120
  go_wp2_with fail
  with_reducible refine K.out.mono ?_
  rintro e w1 ⟨rfl, hb⟩
  go_wp2
  go_ret
  exact ⟨rfl, hb⟩
set_option maxRecDepth 100000 in
set_option maxHeartbeats 12800000 in
theorem parentA_any (w : World) : Calls Tryz.prog 91 #[.string cA] w fun e w' => e = .returned (.tuple #[.string ⟨#[]⟩, .bool false]) ∧ Ext w w' := by
  have K := Lib.hid (lastB_any w)
  go_enter Tryz.func91, Tryz.ntmps91
  go_wp2_with fail
  with_reducible refine K.out.mono ?_
  rintro e w1 ⟨rfl, hb⟩
  go_wp2
  go_ret2
  exact ⟨rfl, hb⟩
set_option maxRecDepth 100000 in
set_option maxHeartbeats 12800000 in
theorem title_any (s : ByteArray) (h1 : 1 ≤ s.size) (h2 : s.size ≤ 60) (h : ∀ (k : Nat) (hk : k < s.size), 32 ≤ ((s[k]'hk).toNat : Int) ∧ ((s[k]'hk).toNat : Int) ≤ 126) (w : World) : Calls Tryz.prog 90 #[.string s] w fun e w' => e = .returned (.bool true) ∧ Ext w w' := by
  have H := Lib.hid h
  clear h
  go_enter Tryz.func90, Tryz.ntmps90
  go_wp2
  go_loopw [3] (fun i wr => ∃ k : Nat, k ≤ s.size ∧ i = .int .i64 k ∧ Hid (Ext w wr)) (fun i _ => s.size - (intOf i).toNat)
  case atStart => exact ⟨0, by omega, rfl, Lib.hid (Ext.refl _)⟩
  case round =>
    obtain ⟨k, hk, rfl, HE⟩ := hrel
    by_cases hlt : k < s.size
    · have ⟨g1, g2⟩ := H.out k hlt
      have g3 : ¬ ((s[k]'hlt).toNat : Int) < 32 := by omega
      have g4 : ¬ 126 < ((s[k]'hlt).toNat : Int) := by omega
      have ki1 : (k : Int) < (s.size : Int) := by omega
      go_wp2
      go_roundw
      case rel => exact ⟨k + 1, by omega, by go_num, HE⟩
      case measure => simp [intOf]; omega
    · obtain rfl : k = s.size := by omega
      have i1 : (1 : Int) ≤ (s.size : Int) := by omega
      have i2 : (s.size : Int) ≤ 60 := by omega
      go_wp2
      go_ret
      exact ⟨rfl, HE.out⟩
theorem titleT : ∀ (k : Nat) (hk : k < cT.size), 32 ≤ ((cT[k]'hk).toNat : Int) ∧ ((cT[k]'hk).toNat : Int) ≤ 126 := by decide +kernel
theorem infoTp {CS : Array Value} (h : CS.size = 2) : (Tryz.prog.info? 41).map (·.size) = some CS.size := by rw [h]; kernel_rfl
set_option maxRecDepth 100000 in
set_option maxHeartbeats 12800000 in
theorem check1_any (A : Option Addr) (c : Nat) (w : World) (h : SlX eTpc w A [(cA, cT)]) (hg : Gm w) :
    Calls Tryz.prog 54 #[.slice A 1 c] w fun e w' => e = .returned (.tuple #[.int .i64 0, .int .i64 0]) ∧ Ext w w' := by
  have H := Lib.hid h
  have HG := Lib.hid hg
  clear h hg
  go_enter Tryz.func54, Tryz.ntmps54
  go_wp2
  go_step3
  go_wp2
  go_step3
  go_wp2
  go_loopw [15] (fun i wr => ∃ k : Nat, k ≤ 1 ∧ i = .int .i64 k ∧ Hid (Ext w wr)) (fun i _ => 1 - (intOf i).toNat)
  case atStart => exact ⟨0, by omega, rfl, Lib.hid (Ext.refl _)⟩
  case round =>
    obtain ⟨k, hk, rfl, HE⟩ := hrel
    by_cases hlt : k < 1
    · obtain rfl : k = 0 := by omega
      obtain ⟨b, off, rfl, hb, hc, -⟩ := (H.out.ext HE.out).at_ (i := 0) (x := (cA, cT)) rfl
      have HC : Hid (wr.rangeAt b off (#[.string cA, .string cT] : Array Value).toList) := Lib.hid hc
      have IT : Hid ((Tryz.prog.info? 41).map (·.size) = some (#[.string cA, .string cT] : Array Value).size) := Lib.hid (infoTp rfl)
      have XW : Hid (Ext wr (wr.alloc (.cells #[.string cA, .string cT] 41))) := Lib.hid ((Ext.refl _).alloc _)
      have c0 : (wr.alloc (.cells #[.string cA, .string cT] 41)).cell? ⟨wr.heap.size, 0, none⟩ = some (.string cA) := World.cell?_alloc_new _ _ _ _
      have C1 : Hid ((wr.alloc (.cells #[.string cA, .string cT] 41)).cell? ⟨wr.heap.size, 1, none⟩ = some (.string cT)) := Lib.hid (World.cell?_alloc_new _ _ _ _)
      have C0 := Lib.hid c0
      clear hc
      go_wp2_with (first
        | (with_reducible refine wpList_load_arr rfl 41 (.tmp 18) rfl b off (by with_unfolding_all rfl) #[.string cA, .string cT] _ HC.out Tryz.underlying41 rfl IT.out ?_)
        | (with_reducible refine wpList_store_new rfl 41 (.tmp 5) (.tmp 19) rfl _ #[.string cA, .string cT] 41 (by with_unfolding_all rfl) (by with_unfolding_all rfl) IT.out (by with_unfolding_all rfl) (by simp [Value.oneCell']) ?_))
      have K := cvalid_any cA _ (by decide) (HG.out.ext (HE.out.trans XW.out))
      rw [codeA] at K
      with_reducible refine K.mono ?_
      rintro e w1 ⟨rfl, hb1⟩
      have X1 := Lib.hid ((HE.out.trans XW.out).trans hb1)
      have d0 := hb1.keep C0.out
      have d1 := hb1.keep C1.out
      have D0 := Lib.hid d0
      clear K hb1 c0
      go_wp2_with fail
      with_reducible refine (title_any cT (by decide) (by decide) titleT _).mono ?_
      rintro e w2 ⟨rfl, hb2⟩
      have X2 := Lib.hid (X1.out.trans hb2)
      have e0 := hb2.keep D0.out
      have E0 := Lib.hid e0
      clear hb2 d0 d1
      go_wp2
      go_quiet (fail)
      go_wp2_with fail
      with_reducible refine (parentA_any _).mono ?_
      rintro e w3 ⟨rfl, hb3⟩
      have X3 := Lib.hid ((X2.out.drewN _).trans hb3)
      clear hb3 e0
      go_wp2
      go_roundw
      case rel => exact ⟨1, by omega, by go_num, X3⟩
      case measure => simp [intOf]
    · obtain rfl : k = 1 := by omega
      go_wp2
      try rw [Exit.noGoto_ret]
      go_ret2
      exact ⟨rfl, HE.out⟩
end Bk
end Go.Proofs.YtfnmgcblhebdbaaGreatDoor
