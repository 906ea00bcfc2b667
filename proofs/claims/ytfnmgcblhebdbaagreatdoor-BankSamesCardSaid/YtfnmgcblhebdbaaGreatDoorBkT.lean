/- A topic added to an empty outline: contracts for the law's first example. Conditions: those of each theorem. -/
import Derived.Test.YtfnmgcblhebdbaaGreatDoorBkQ
namespace Go.Proofs.YtfnmgcblhebdbaaGreatDoor
open Go.RowKit
namespace Bk
set_option maxRecDepth 100000 in
set_option maxHeartbeats 12800000 in
theorem ixE_any (F : Value) (w : World) : Calls Tryz.prog 126 #[.slice none 0 0, F] w fun e w' => e = .returned (.int .i64 (-1)) ∧ Ext w w' := by
  go_enter Tryz.func126, Tryz.ntmps126
  go_wp2
  go_loopw [8] (fun i wr => i = .int .i64 0 ∧ Hid (Ext w wr)) (fun _ _ => 0)
  case atStart => exact ⟨rfl, Lib.hid (Ext.refl _)⟩
  case round =>
    obtain ⟨rfl, HE⟩ := hrel
    go_wp2
    go_ret
    exact ⟨rfl, HE.out⟩
set_option maxRecDepth 100000 in
set_option maxHeartbeats 12800000 in
theorem cfE_any (F : Value) (w : World) : Calls Tryz.prog 94 #[.slice none 0 0, F] w fun e w' => e = .returned (.bool false) ∧ Ext w w' := by
  have K := Lib.hid (ixE_any F w)
  go_enter Tryz.func94, Tryz.ntmps94
  go_wp2_with fail
  with_reducible refine K.out.mono ?_
  rintro e w1 ⟨rfl, hb⟩
  go_wp2
  go_ret
  exact ⟨rfl, hb⟩
set_option maxRecDepth 100000 in
set_option maxHeartbeats 12800000 in
theorem hasE_any (CB : Array Value) (s : ByteArray) (h3 : CB[3]? = some (.slice none 0 0)) (w : World) : Calls Tryz.prog 63 #[.agg CB, .string s] w fun e w' => e = .returned (.bool false) ∧ Ext w w' := by
  have X1 : Hid (Ext w ((w.alloc (.cells CB 31)).alloc (.cells #[.string s] 9))) := Lib.hid (((Ext.refl _).alloc _).alloc _)
  have c3 : ((w.alloc (.cells CB 31)).alloc (.cells #[.string s] 9)).cell? ⟨w.heap.size, 3, none⟩ = some (.slice none 0 0) := Ext.keep ((Ext.refl _).alloc _) ((World.cell?_alloc_new _ _ _ _).trans h3)
  clear h3
  go_enter Tryz.func63, Tryz.ntmps63
  go_wp2_with fail
  with_reducible refine (cfE_any _ _).mono ?_
  rintro e w1 ⟨rfl, hb⟩
  go_wp2
  go_ret
  exact ⟨rfl, X1.out.trans hb⟩
set_option maxRecDepth 100000 in
set_option maxHeartbeats 12800000 in
theorem has16_any (CC : Array Value) (h2 : CC[2]? = some (.int .i64 16)) (w : World) : Calls Tryz.prog 62 #[.agg CC, .int .i64 16] w fun e w' => e = .returned (.bool true) ∧ Ext w w' := by
  have X1 : Hid (Ext w (w.alloc (.cells CC 48))) := Lib.hid ((Ext.refl _).alloc _)
  have c2 : (w.alloc (.cells CC 48)).cell? ⟨w.heap.size, 2, none⟩ = some (.int .i64 16) := (World.cell?_alloc_new _ _ _ _).trans h2
  clear h2
  go_enter Tryz.func62, Tryz.ntmps62
  go_wp2
  go_ret
  exact ⟨rfl, X1.out⟩
theorem infoTpF : (Tryz.prog.info? 41).map (fun i => (i.zero, i.size, i.bytes)) = some (some (.agg #[.string ⟨#[]⟩, .string ⟨#[]⟩]), 2, 32) := by kernel_rfl
set_option maxRecDepth 100000 in
set_option maxHeartbeats 12800000 in
theorem insE_any (A : Option Addr) (c : Nat) (x : Tpc) (w : World) (h : SlX eTpc w A [x]) :
    Calls Tryz.prog 64 #[.slice none 0 0, .int .i64 0, .slice A 1 c] w fun e w' => (∃ A' c', e = .returned (.slice A' 1 c') ∧ RowX eTpc 41 w' w.heap.size (.slice A' 1 c') [x]) ∧ Ext w w' := by
  have H := Lib.hid h
  clear h
  obtain ⟨i0, hi0, hx⟩ := Option.map_eq_some_iff.1 infoTpF
  simp only [Prod.mk.injEq] at hx
  obtain ⟨hz0, hz1, hz2⟩ := hx
  go_enter Tryz.func64, Tryz.ntmps64
  go_wp2_with (at_builtin; refine wpList_appS rfl _ _ 26 rfl w 41 i0 (.agg #[.string ⟨#[]⟩, .string ⟨#[]⟩]) 2 32 Tryz.underlying26 hi0 hz0 hz1 hz2 rfl (by decide) _ 0 [] rfl (own_nil _ _ _ _) (Ext.refl _) A c 1 ([x].map eTpc.enc) rfl rfl H.out.sl (map_len [x]) ?q1 ?q2 ?q3 ?_)
  case q1 =>
    intro c hc
    obtain ⟨x, -, rfl⟩ := List.mem_map.1 hc
    exact eTpc.one x
  case q2 => unfold maxLen; omega
  case q3 => omega
  intro A' c' w' hown hb
  go_wp2
  go_ret
  exact ⟨⟨A', c', rfl, ⟨hown, fun y hy => eTpc.ext (H.out.ins y hy) hb, fun _ _ _ _ => trivial⟩⟩, hb⟩
end Bk
end Go.Proofs.YtfnmgcblhebdbaaGreatDoor
