/- What is known of the element types; slices.Clone: contracts. Conditions: those of each theorem. -/
import Derived.Test.YtfnmgcblhebdbaaGreatDoorBkB
namespace Go.Proofs.YtfnmgcblhebdbaaGreatDoor
open Go.RowKit
namespace Bk
/-- The rows of one call: what it makes of a slice. -/
def RetCl {X : Type} (E : Elt X) (A0 : Option Addr) (w : World) (n : Nat) (xs : List X) (e : Ending) (w' : World) : Prop := ∃ A c, e = .returned (.slice A n c) ∧ (A0 = none → A = none ∧ c = 0) ∧ n ≤ c ∧ c ≤ maxLen ∧ FromA w.heap.size A n ∧ SlX E w' A xs ∧ TyA E.T w' A n ∧ Ext w w'
theorem RetCl.of_own {X : Type} {E : Elt X} {w w' : World} {n c : Nat} {A A0 : Option Addr} (h0 : A0 ≠ none) {xs : List X} (hn : xs.length = n) (hs : ∀ x ∈ xs, E.In w x) (ho : w'.ownsRow w.heap.size E.T E.k (.slice A n c) n (xs.map E.enc).flatten) (he : Ext w w') : RetCl E A0 w n xs (.returned (.slice A n c)) w' := by
  obtain ⟨A2, c2, h1, h2, h3, h4⟩ := Sl.of_own (xs := xs.map E.enc) (map_len xs) ((List.length_map _).trans hn) ho
  rw [List.length_map, hn] at h1 h2
  cases h1
  refine ⟨A, c, rfl, fun h => absurd h h0, h2, h3, Or.inr fun a ha => ?_, ⟨h4, fun x hx => E.ext (hs x hx) he⟩, TyA.of_own ho, he⟩
  refine own_ge ho a.block ?_
  rw [ha]; rfl
theorem infoI : (Tryz.prog.info? 3).map (fun i => (i.zero, i.size, i.bytes)) = some (some (.int .i64 0), 1, 8) := by kernel_rfl
theorem infoS : (Tryz.prog.info? 9).map (fun i => (i.zero, i.size, i.bytes)) = some (some (.string ⟨#[]⟩), 1, 16) := by kernel_rfl
theorem infoAct : (Tryz.prog.info? 116).map (fun i => (i.zero, i.size, i.bytes)) = some (some (.agg #[.int .i64 0, .int .i64 0, .int .i64 0, .int .i64 0]), 4, 32) := by kernel_rfl
theorem infoTpc : (Tryz.prog.info? 41).map (fun i => (i.zero, i.size, i.bytes)) = some (some (.agg #[.string ⟨#[]⟩, .string ⟨#[]⟩]), 2, 32) := by kernel_rfl
theorem infoAst : (Tryz.prog.info? 43).map (fun i => (i.zero, i.size, i.bytes)) = some (some (.agg #[.int .i64 0, .int .i64 0, .string ⟨#[]⟩, .int .i64 0, .int .i64 0]), 5, 48) := by kernel_rfl
theorem infoPar : (Tryz.prog.info? 80).map (fun i => (i.zero, i.size, i.bytes)) = some (some (.agg #[.int .i64 0, .int .i64 0]), 2, 16) := by kernel_rfl
theorem infoIt : (Tryz.prog.info? 39).map (fun i => (i.zero, i.size, i.bytes)) = some (some (.agg #[.int .i64 0, .int .i64 0, .int .i64 0, .string ⟨#[]⟩, .slice none 0 0, .slice none 0 0, .int .i64 0, .int .i64 0, .slice none 0 0, .int .i64 0, .string ⟨#[]⟩, .int .i64 0, .int .i64 0, .int .i64 0, .int .i64 0, .slice none 0 0, .int .i64 0]), 17, 216) := by kernel_rfl
theorem infoEnt : (Tryz.prog.info? 56).map (fun i => (i.zero, i.size, i.bytes)) = some (some (.agg #[.slice none 0 0, .int .i64 0, .int .i64 0, .slice none 0 0, .slice none 0 0, .slice none 0 0, .slice none 0 0]), 7, 136) := by kernel_rfl
theorem infoIL : (Tryz.prog.info? 22).map (fun i => (i.zero, i.size, i.bytes)) = some (some (.slice none 0 0), 1, 24) := by kernel_rfl
set_option maxRecDepth 100000 in
set_option maxHeartbeats 3200000 in
theorem cloneI (A : Option Addr) (c : Nat) (xs : List (Int)) {n : Nat} (hn : xs.length = n) (w : World) (h : SlX eI w A xs) (hbig : n * 8 ≤ 140737488355328) :
    Calls Tryz.prog 58 #[.slice A n c] w (RetCl eI A w n xs) := by
  have H := Lib.hid h
  have HN := Lib.hid hn
  clear h hn
  have q0 : ∀ (w : World) (a : Option Addr) (n c n' c' : Nat), (binOp .eql 22 (.slice a n c) (.slice none n' c')).run Tryz.prog w = .ok (.bool a.isNone) w := fun w a n c n' c' => Lib.run_eql_slice_nil w _ _ a n c n' c' Tryz.underlying22
  cases A with
  | none =>
    have hx : xs = [] := by
      rcases H.out.sl with h | ⟨b, off, hA, _⟩
      · simpa using h
      · cases hA
    have h0 : n = 0 := by rw [← HN.out, hx]; rfl
    subst h0
    have HX := Lib.hid hx
    clear hx
    go_enter Tryz.func58, Tryz.ntmps58
    go_wp2
    go_ret
    rw [HX.out]
    exact ⟨none, 0, rfl, fun _ => ⟨rfl, rfl⟩, Nat.le_refl _, Nat.zero_le _, Or.inl rfl, SlX.nil _ _, Or.inl rfl, Ext.refl _⟩
  | some a =>
    obtain ⟨i0, hi0, hz0, hz1, hz2⟩ := info_parts infoI
    go_enter Tryz.func58, Tryz.ntmps58
    go_wp2_with (at_builtin; refine wpList_appS rfl _ _ 22 rfl w 3 i0 (.int .i64 0) 1 8 Tryz.underlying22 hi0 hz0 hz1 hz2 rfl (by decide) _ 0 [] rfl (World.ownsRow_made w #[] 0 (Nat.le_refl _) (Nat.zero_le _) (by simp)) ((Ext.refl _).alloc _) (some a) c n (xs.map eI.enc) ((List.length_map _).trans HN.out) rfl (H.out.sl.ext ((Ext.refl _).alloc _)) (map_len xs) ?q1 ?q2 ?q3 ?_)
    case q1 =>
      intro c hc
      obtain ⟨x, -, rfl⟩ := List.mem_map.1 hc
      exact eI.one x
    case q2 => unfold maxLen; omega
    case q3 => omega
    intro A' c' w' hown hb
    go_wp2
    go_ret
    exact RetCl.of_own (by simp) HN.out H.out.ins hown hb
set_option maxRecDepth 100000 in
set_option maxHeartbeats 3200000 in
theorem cloneS (A : Option Addr) (c : Nat) (xs : List (ByteArray)) {n : Nat} (hn : xs.length = n) (w : World) (h : SlX eS w A xs) (hbig : n * 16 ≤ 140737488355328) :
    Calls Tryz.prog 84 #[.slice A n c] w (RetCl eS A w n xs) := by
  have H := Lib.hid h
  have HN := Lib.hid hn
  clear h hn
  have q0 : ∀ (w : World) (a : Option Addr) (n c n' c' : Nat), (binOp .eql 37 (.slice a n c) (.slice none n' c')).run Tryz.prog w = .ok (.bool a.isNone) w := fun w a n c n' c' => Lib.run_eql_slice_nil w _ _ a n c n' c' Tryz.underlying37
  cases A with
  | none =>
    have hx : xs = [] := by
      rcases H.out.sl with h | ⟨b, off, hA, _⟩
      · simpa using h
      · cases hA
    have h0 : n = 0 := by rw [← HN.out, hx]; rfl
    subst h0
    have HX := Lib.hid hx
    clear hx
    go_enter Tryz.func84, Tryz.ntmps84
    go_wp2
    go_ret
    rw [HX.out]
    exact ⟨none, 0, rfl, fun _ => ⟨rfl, rfl⟩, Nat.le_refl _, Nat.zero_le _, Or.inl rfl, SlX.nil _ _, Or.inl rfl, Ext.refl _⟩
  | some a =>
    obtain ⟨i0, hi0, hz0, hz1, hz2⟩ := info_parts infoS
    go_enter Tryz.func84, Tryz.ntmps84
    go_wp2_with (at_builtin; refine wpList_appS rfl _ _ 37 rfl w 9 i0 (.string ⟨#[]⟩) 1 16 Tryz.underlying37 hi0 hz0 hz1 hz2 rfl (by decide) _ 0 [] rfl (World.ownsRow_made w #[] 0 (Nat.le_refl _) (Nat.zero_le _) (by simp)) ((Ext.refl _).alloc _) (some a) c n (xs.map eS.enc) ((List.length_map _).trans HN.out) rfl (H.out.sl.ext ((Ext.refl _).alloc _)) (map_len xs) ?q1 ?q2 ?q3 ?_)
    case q1 =>
      intro c hc
      obtain ⟨x, -, rfl⟩ := List.mem_map.1 hc
      exact eS.one x
    case q2 => unfold maxLen; omega
    case q3 => omega
    intro A' c' w' hown hb
    go_wp2
    go_ret
    exact RetCl.of_own (by simp) HN.out H.out.ins hown hb
set_option maxRecDepth 100000 in
set_option maxHeartbeats 3200000 in
theorem cloneAct (A : Option Addr) (c : Nat) (xs : List (Rev.Act)) {n : Nat} (hn : xs.length = n) (w : World) (h : SlX eAct w A xs) (hbig : n * 32 ≤ 140737488355328) :
    Calls Tryz.prog 81 #[.slice A n c] w (RetCl eAct A w n xs) := by
  have H := Lib.hid h
  have HN := Lib.hid hn
  clear h hn
  have q0 : ∀ (w : World) (a : Option Addr) (n c n' c' : Nat), (binOp .eql 52 (.slice a n c) (.slice none n' c')).run Tryz.prog w = .ok (.bool a.isNone) w := fun w a n c n' c' => Lib.run_eql_slice_nil w _ _ a n c n' c' Tryz.underlying52
  cases A with
  | none =>
    have hx : xs = [] := by
      rcases H.out.sl with h | ⟨b, off, hA, _⟩
      · simpa using h
      · cases hA
    have h0 : n = 0 := by rw [← HN.out, hx]; rfl
    subst h0
    have HX := Lib.hid hx
    clear hx
    go_enter Tryz.func81, Tryz.ntmps81
    go_wp2
    go_ret
    rw [HX.out]
    exact ⟨none, 0, rfl, fun _ => ⟨rfl, rfl⟩, Nat.le_refl _, Nat.zero_le _, Or.inl rfl, SlX.nil _ _, Or.inl rfl, Ext.refl _⟩
  | some a =>
    obtain ⟨i0, hi0, hz0, hz1, hz2⟩ := info_parts infoAct
    go_enter Tryz.func81, Tryz.ntmps81
    go_wp2_with (at_builtin; refine wpList_appS rfl _ _ 52 rfl w 116 i0 (.agg #[.int .i64 0, .int .i64 0, .int .i64 0, .int .i64 0]) 4 32 Tryz.underlying52 hi0 hz0 hz1 hz2 rfl (by decide) _ 0 [] rfl (World.ownsRow_made w #[] 0 (Nat.le_refl _) (Nat.zero_le _) (by simp)) ((Ext.refl _).alloc _) (some a) c n (xs.map eAct.enc) ((List.length_map _).trans HN.out) rfl (H.out.sl.ext ((Ext.refl _).alloc _)) (map_len xs) ?q1 ?q2 ?q3 ?_)
    case q1 =>
      intro c hc
      obtain ⟨x, -, rfl⟩ := List.mem_map.1 hc
      exact eAct.one x
    case q2 => unfold maxLen; omega
    case q3 => omega
    intro A' c' w' hown hb
    go_wp2
    go_ret
    exact RetCl.of_own (by simp) HN.out H.out.ins hown hb
set_option maxRecDepth 100000 in
set_option maxHeartbeats 3200000 in
theorem cloneTpc (A : Option Addr) (c : Nat) (xs : List (Tpc)) {n : Nat} (hn : xs.length = n) (w : World) (h : SlX eTpc w A xs) (hbig : n * 32 ≤ 140737488355328) :
    Calls Tryz.prog 59 #[.slice A n c] w (RetCl eTpc A w n xs) := by
  have H := Lib.hid h
  have HN := Lib.hid hn
  clear h hn
  have q0 : ∀ (w : World) (a : Option Addr) (n c n' c' : Nat), (binOp .eql 26 (.slice a n c) (.slice none n' c')).run Tryz.prog w = .ok (.bool a.isNone) w := fun w a n c n' c' => Lib.run_eql_slice_nil w _ _ a n c n' c' Tryz.underlying26
  cases A with
  | none =>
    have hx : xs = [] := by
      rcases H.out.sl with h | ⟨b, off, hA, _⟩
      · simpa using h
      · cases hA
    have h0 : n = 0 := by rw [← HN.out, hx]; rfl
    subst h0
    have HX := Lib.hid hx
    clear hx
    go_enter Tryz.func59, Tryz.ntmps59
    go_wp2
    go_ret
    rw [HX.out]
    exact ⟨none, 0, rfl, fun _ => ⟨rfl, rfl⟩, Nat.le_refl _, Nat.zero_le _, Or.inl rfl, SlX.nil _ _, Or.inl rfl, Ext.refl _⟩
  | some a =>
    obtain ⟨i0, hi0, hz0, hz1, hz2⟩ := info_parts infoTpc
    go_enter Tryz.func59, Tryz.ntmps59
    go_wp2_with (at_builtin; refine wpList_appS rfl _ _ 26 rfl w 41 i0 (.agg #[.string ⟨#[]⟩, .string ⟨#[]⟩]) 2 32 Tryz.underlying26 hi0 hz0 hz1 hz2 rfl (by decide) _ 0 [] rfl (World.ownsRow_made w #[] 0 (Nat.le_refl _) (Nat.zero_le _) (by simp)) ((Ext.refl _).alloc _) (some a) c n (xs.map eTpc.enc) ((List.length_map _).trans HN.out) rfl (H.out.sl.ext ((Ext.refl _).alloc _)) (map_len xs) ?q1 ?q2 ?q3 ?_)
    case q1 =>
      intro c hc
      obtain ⟨x, -, rfl⟩ := List.mem_map.1 hc
      exact eTpc.one x
    case q2 => unfold maxLen; omega
    case q3 => omega
    intro A' c' w' hown hb
    go_wp2
    go_ret
    exact RetCl.of_own (by simp) HN.out H.out.ins hown hb
set_option maxRecDepth 100000 in
set_option maxHeartbeats 3200000 in
theorem cloneAst (A : Option Addr) (c : Nat) (xs : List (Ast)) {n : Nat} (hn : xs.length = n) (w : World) (h : SlX eAst w A xs) (hbig : n * 48 ≤ 140737488355328) :
    Calls Tryz.prog 60 #[.slice A n c] w (RetCl eAst A w n xs) := by
  have H := Lib.hid h
  have HN := Lib.hid hn
  clear h hn
  have q0 : ∀ (w : World) (a : Option Addr) (n c n' c' : Nat), (binOp .eql 27 (.slice a n c) (.slice none n' c')).run Tryz.prog w = .ok (.bool a.isNone) w := fun w a n c n' c' => Lib.run_eql_slice_nil w _ _ a n c n' c' Tryz.underlying27
  cases A with
  | none =>
    have hx : xs = [] := by
      rcases H.out.sl with h | ⟨b, off, hA, _⟩
      · simpa using h
      · cases hA
    have h0 : n = 0 := by rw [← HN.out, hx]; rfl
    subst h0
    have HX := Lib.hid hx
    clear hx
    go_enter Tryz.func60, Tryz.ntmps60
    go_wp2
    go_ret
    rw [HX.out]
    exact ⟨none, 0, rfl, fun _ => ⟨rfl, rfl⟩, Nat.le_refl _, Nat.zero_le _, Or.inl rfl, SlX.nil _ _, Or.inl rfl, Ext.refl _⟩
  | some a =>
    obtain ⟨i0, hi0, hz0, hz1, hz2⟩ := info_parts infoAst
    go_enter Tryz.func60, Tryz.ntmps60
    go_wp2_with (at_builtin; refine wpList_appS rfl _ _ 27 rfl w 43 i0 (.agg #[.int .i64 0, .int .i64 0, .string ⟨#[]⟩, .int .i64 0, .int .i64 0]) 5 48 Tryz.underlying27 hi0 hz0 hz1 hz2 rfl (by decide) _ 0 [] rfl (World.ownsRow_made w #[] 0 (Nat.le_refl _) (Nat.zero_le _) (by simp)) ((Ext.refl _).alloc _) (some a) c n (xs.map eAst.enc) ((List.length_map _).trans HN.out) rfl (H.out.sl.ext ((Ext.refl _).alloc _)) (map_len xs) ?q1 ?q2 ?q3 ?_)
    case q1 =>
      intro c hc
      obtain ⟨x, -, rfl⟩ := List.mem_map.1 hc
      exact eAst.one x
    case q2 => unfold maxLen; omega
    case q3 => omega
    intro A' c' w' hown hb
    go_wp2
    go_ret
    exact RetCl.of_own (by simp) HN.out H.out.ins hown hb
set_option maxRecDepth 100000 in
set_option maxHeartbeats 3200000 in
theorem clonePar (A : Option Addr) (c : Nat) (xs : List (Int × Int)) {n : Nat} (hn : xs.length = n) (w : World) (h : SlX ePar w A xs) (hbig : n * 16 ≤ 140737488355328) :
    Calls Tryz.prog 61 #[.slice A n c] w (RetCl ePar A w n xs) := by
  have H := Lib.hid h
  have HN := Lib.hid hn
  clear h hn
  have q0 : ∀ (w : World) (a : Option Addr) (n c n' c' : Nat), (binOp .eql 29 (.slice a n c) (.slice none n' c')).run Tryz.prog w = .ok (.bool a.isNone) w := fun w a n c n' c' => Lib.run_eql_slice_nil w _ _ a n c n' c' Tryz.underlying29
  cases A with
  | none =>
    have hx : xs = [] := by
      rcases H.out.sl with h | ⟨b, off, hA, _⟩
      · simpa using h
      · cases hA
    have h0 : n = 0 := by rw [← HN.out, hx]; rfl
    subst h0
    have HX := Lib.hid hx
    clear hx
    go_enter Tryz.func61, Tryz.ntmps61
    go_wp2
    go_ret
    rw [HX.out]
    exact ⟨none, 0, rfl, fun _ => ⟨rfl, rfl⟩, Nat.le_refl _, Nat.zero_le _, Or.inl rfl, SlX.nil _ _, Or.inl rfl, Ext.refl _⟩
  | some a =>
    obtain ⟨i0, hi0, hz0, hz1, hz2⟩ := info_parts infoPar
    go_enter Tryz.func61, Tryz.ntmps61
    go_wp2_with (at_builtin; refine wpList_appS rfl _ _ 29 rfl w 80 i0 (.agg #[.int .i64 0, .int .i64 0]) 2 16 Tryz.underlying29 hi0 hz0 hz1 hz2 rfl (by decide) _ 0 [] rfl (World.ownsRow_made w #[] 0 (Nat.le_refl _) (Nat.zero_le _) (by simp)) ((Ext.refl _).alloc _) (some a) c n (xs.map ePar.enc) ((List.length_map _).trans HN.out) rfl (H.out.sl.ext ((Ext.refl _).alloc _)) (map_len xs) ?q1 ?q2 ?q3 ?_)
    case q1 =>
      intro c hc
      obtain ⟨x, -, rfl⟩ := List.mem_map.1 hc
      exact ePar.one x
    case q2 => unfold maxLen; omega
    case q3 => omega
    intro A' c' w' hown hb
    go_wp2
    go_ret
    exact RetCl.of_own (by simp) HN.out H.out.ins hown hb
end Bk
end Go.Proofs.YtfnmgcblhebdbaaGreatDoor
